/- The machine side of one law: each function and the law itself walked once, written by a program of this session (wip/xprint.py) that runs the printer of the kit.
   Conditions: none. -/
import Derived.Test.YtjiaanjbgibciaaQFnExactBackMaxx0
import Derived.Test.YtjiaanjbgibciaaQFnExactBackMaxx2
import Derived.Test.YtjiaanjbgibciaaQFnExactBackMaxx5
import Derived.Test.YtjiaanjbgibciaaQFnExactBackMaxx7
namespace Go.Proofs.Ytjiaanjbgibciaa.QFnExactBackMax
open Go.RowKit Go.Proofs.YtjiaanjbgibciaaW.PrintWords Go.Proofs.YtjiaanjbgibciaaW.PrintLast Go.Proofs.YtjiaanjbgibciaaW.PrintMore
attribute [local go_sem] max2_int min2_int max_two min_two max_three min_three max_four min_four   -- for this text's walks alone
set_option linter.unusedVariables false
set_option linter.unusedSimpArgs false

/-! ### laws_FnExactBackMax: function 12 -/
def laws_FnExactBackMax.f (k : Nat) (a0 : Int) (a1_0 : Bool) (a1_1 : Int) (a1_2 : Int) (a2_0 : Bool) (a2_1 : Int) (a2_2 : Int) (a3_0 : Bool) (a3_1 : Int) (a3_2 : Int) : Option (Bool) := (laws_toSpan.f a1_0 a1_1 a1_2).bind fun bt288 => ((laws_toSpan.f a2_0 a2_1 a2_2).bind fun bt291 => ((laws_toSpan.f a3_0 a3_1 a3_2).bind fun bt294 => ((spec_BackMax.f k a0 bt288.1 bt288.2.1 bt288.2.2 bt291.1 bt291.2.1 bt291.2.2 bt294.1 bt294.2.1 bt294.2.2).bind fun bt297 => ((laws_toSpan.f a1_0 a1_1 a1_2).bind fun bt301 => ((laws_toSpan.f a2_0 a2_1 a2_2).bind fun bt304 => ((laws_toSpan.f a3_0 a3_1 a3_2).bind fun bt307 => ((impl_BackMax.f k a0 bt301.1 bt301.2.1 bt301.2.2 bt304.1 bt304.2.1 bt304.2.2 bt307.1 bt307.2.1 bt307.2.2).bind fun bt310 => ((laws_eqSpan.f bt310.1 bt310.2.1 bt310.2.2 bt297.1 bt297.2.1 bt297.2.2).bind fun t314 => (if t314 = true then (some true) else (some false))))))))))
theorem laws_FnExactBackMax.mono : ∀ a0 a1 a2 a3 a4 a5 a6 a7 a8 a9 k, LeO (laws_FnExactBackMax.f k a0 a1 a2 a3 a4 a5 a6 a7 a8 a9) (laws_FnExactBackMax.f (k + 1) a0 a1 a2 a3 a4 a5 a6 a7 a8 a9) := by
  intro a0 a1 a2 a3 a4 a5 a6 a7 a8 a9 k
  unfold laws_FnExactBackMax.f
  repeat' first
      | (with_reducible exact impl_BackMax.mono _ _ _ _ _ _ _ _ _ _ _)
      | (with_reducible exact spec_BackMax.mono _ _ _ _ _ _ _ _ _ _ _)
      | (with_reducible exact LeO.refl _)
      | (with_reducible exact LeO.none _)
      | (with_reducible refine LeO.ite ?_ ?_)
      | (with_reducible refine LeO.bind ?_ (fun _ => ?_))
      | exact impl_BackMax.mono _ _ _ _ _ _ _ _ _ _ _
      | exact spec_BackMax.mono _ _ _ _ _ _ _ _ _ _ _
      | exact LeO.none _
      | refine LeO.ite ?_ ?_
      | refine LeO.bind ?_ (fun _ => ?_)
def laws_FnExactBackMax.T1 : Bool × List (List Nat × List Nat) := (true, [([], []), ([], []), ([1], [1]), ([], []), ([3, 2], [3]), ([], []), ([5, 4], [5]), ([0, 2, 4, 6, 6], [0, 2, 4, 6]), ([], []), ([8, 7, 7, 0, 1, 2, 3, 4, 5, 6, 7, 8], [7, 8])])
def laws_FnExactBackMax.B1 : List Nat := [0, 0, 2, 0, 14, 0, 62, 127, 0, 511]
theorem laws_FnExactBackMax.tab1 : rtab .any (opsOf Try.f12 1) = laws_FnExactBackMax.T1 := by kernel_rfl
theorem laws_FnExactBackMax.bits1 : waitsOk laws_FnExactBackMax.T1.2 laws_FnExactBackMax.B1 = true := by kernel_rfl
def laws_FnExactBackMax.T2 : Bool × List (List Nat × List Nat) := (true, [([], []), ([], []), ([1], [1]), ([], []), ([3, 2], [3]), ([], []), ([5, 4], [5]), ([0, 2, 4, 6, 6], [0, 2, 4, 6]), ([], []), ([8, 7, 7, 0, 1, 2, 3, 4, 5, 6, 7, 8], [7, 8])])
def laws_FnExactBackMax.B2 : List Nat := [0, 0, 2, 0, 14, 0, 62, 127, 0, 511]
theorem laws_FnExactBackMax.tab2 : rtab .any (opsOf Try.f12 2) = laws_FnExactBackMax.T2 := by kernel_rfl
theorem laws_FnExactBackMax.bits2 : waitsOk laws_FnExactBackMax.T2.2 laws_FnExactBackMax.B2 = true := by kernel_rfl
set_option maxHeartbeats 8000000 in
set_option maxRecDepth 100000 in
theorem laws_FnExactBackMax.calls (k : Nat) (a0 : Int) (a1_0 : Bool) (a1_1 : Int) (a1_2 : Int) (a2_0 : Bool) (a2_1 : Int) (a2_2 : Int) (a3_0 : Bool) (a3_1 : Int) (a3_2 : Int) (r : Bool) (w : World) (h : laws_FnExactBackMax.f k a0 a1_0 a1_1 a1_2 a2_0 a2_1 a2_2 a3_0 a3_1 a3_2 = some r) (hr : Aside0 (true = r)) :
    Calls Try.prog 12 #[.int .i64 a0, .agg #[.bool a1_0, .int .i64 a1_1, .int .i64 a1_2], .agg #[.bool a2_0, .int .i64 a2_1, .int .i64 a2_2], .agg #[.bool a3_0, .int .i64 a3_1, .int .i64 a3_2]] w fun e w' => e = .returned (.bool r) ∧ Below w.heap.size w w' := by
  have hu27 := Try.underlying27
  have hu23 := Try.underlying23
  have HB := Aside0.mk (Below.refl w.heap.size w)
  have H : ((laws_toSpan.f a1_0 a1_1 a1_2).bind fun bt288 => ((laws_toSpan.f a2_0 a2_1 a2_2).bind fun bt291 => ((laws_toSpan.f a3_0 a3_1 a3_2).bind fun bt294 => ((spec_BackMax.f k a0 bt288.1 bt288.2.1 bt288.2.2 bt291.1 bt291.2.1 bt291.2.2 bt294.1 bt294.2.1 bt294.2.2).bind fun bt297 => ((laws_toSpan.f a1_0 a1_1 a1_2).bind fun bt301 => ((laws_toSpan.f a2_0 a2_1 a2_2).bind fun bt304 => ((laws_toSpan.f a3_0 a3_1 a3_2).bind fun bt307 => ((impl_BackMax.f k a0 bt301.1 bt301.2.1 bt301.2.2 bt304.1 bt304.2.1 bt304.2.2 bt307.1 bt307.2.1 bt307.2.2).bind fun bt310 => ((laws_eqSpan.f bt310.1 bt310.2.1 bt310.2.2 bt297.1 bt297.2.1 bt297.2.2).bind fun t314 => (if t314 = true then (some true) else (some false))))))))))) = some r := h
  clear h
  replace H := Option.bind_eq_some_iff.mp H
  obtain ⟨⟨t288, t289, t290⟩, A50, H⟩ := H
  replace H : ((laws_toSpan.f a2_0 a2_1 a2_2).bind fun bt291 => ((laws_toSpan.f a3_0 a3_1 a3_2).bind fun bt294 => ((spec_BackMax.f k a0 t288 t289 t290 bt291.1 bt291.2.1 bt291.2.2 bt294.1 bt294.2.1 bt294.2.2).bind fun bt297 => ((laws_toSpan.f a1_0 a1_1 a1_2).bind fun bt301 => ((laws_toSpan.f a2_0 a2_1 a2_2).bind fun bt304 => ((laws_toSpan.f a3_0 a3_1 a3_2).bind fun bt307 => ((impl_BackMax.f k a0 bt301.1 bt301.2.1 bt301.2.2 bt304.1 bt304.2.1 bt304.2.2 bt307.1 bt307.2.1 bt307.2.2).bind fun bt310 => ((laws_eqSpan.f bt310.1 bt310.2.1 bt310.2.2 bt297.1 bt297.2.1 bt297.2.2).bind fun t314 => (if t314 = true then (some true) else (some false)))))))))) = some r := H
  have A5 := Aside0.mk A50
  clear A50
  replace H := Option.bind_eq_some_iff.mp H
  obtain ⟨⟨t291, t292, t293⟩, A60, H⟩ := H
  replace H : ((laws_toSpan.f a3_0 a3_1 a3_2).bind fun bt294 => ((spec_BackMax.f k a0 t288 t289 t290 t291 t292 t293 bt294.1 bt294.2.1 bt294.2.2).bind fun bt297 => ((laws_toSpan.f a1_0 a1_1 a1_2).bind fun bt301 => ((laws_toSpan.f a2_0 a2_1 a2_2).bind fun bt304 => ((laws_toSpan.f a3_0 a3_1 a3_2).bind fun bt307 => ((impl_BackMax.f k a0 bt301.1 bt301.2.1 bt301.2.2 bt304.1 bt304.2.1 bt304.2.2 bt307.1 bt307.2.1 bt307.2.2).bind fun bt310 => ((laws_eqSpan.f bt310.1 bt310.2.1 bt310.2.2 bt297.1 bt297.2.1 bt297.2.2).bind fun t314 => (if t314 = true then (some true) else (some false))))))))) = some r := H
  have A6 := Aside0.mk A60
  clear A60
  replace H := Option.bind_eq_some_iff.mp H
  obtain ⟨⟨t294, t295, t296⟩, A70, H⟩ := H
  replace H : ((spec_BackMax.f k a0 t288 t289 t290 t291 t292 t293 t294 t295 t296).bind fun bt297 => ((laws_toSpan.f a1_0 a1_1 a1_2).bind fun bt301 => ((laws_toSpan.f a2_0 a2_1 a2_2).bind fun bt304 => ((laws_toSpan.f a3_0 a3_1 a3_2).bind fun bt307 => ((impl_BackMax.f k a0 bt301.1 bt301.2.1 bt301.2.2 bt304.1 bt304.2.1 bt304.2.2 bt307.1 bt307.2.1 bt307.2.2).bind fun bt310 => ((laws_eqSpan.f bt310.1 bt310.2.1 bt310.2.2 bt297.1 bt297.2.1 bt297.2.2).bind fun t314 => (if t314 = true then (some true) else (some false)))))))) = some r := H
  have A7 := Aside0.mk A70
  clear A70
  replace H := Option.bind_eq_some_iff.mp H
  obtain ⟨⟨t297, t298, t299⟩, A80, H⟩ := H
  replace H : ((laws_toSpan.f a1_0 a1_1 a1_2).bind fun bt301 => ((laws_toSpan.f a2_0 a2_1 a2_2).bind fun bt304 => ((laws_toSpan.f a3_0 a3_1 a3_2).bind fun bt307 => ((impl_BackMax.f k a0 bt301.1 bt301.2.1 bt301.2.2 bt304.1 bt304.2.1 bt304.2.2 bt307.1 bt307.2.1 bt307.2.2).bind fun bt310 => ((laws_eqSpan.f bt310.1 bt310.2.1 bt310.2.2 t297 t298 t299).bind fun t314 => (if t314 = true then (some true) else (some false))))))) = some r := H
  have A8 := Aside0.mk A80
  clear A80
  replace H := Option.bind_eq_some_iff.mp H
  obtain ⟨⟨t301, t302, t303⟩, A90, H⟩ := H
  replace H : ((laws_toSpan.f a2_0 a2_1 a2_2).bind fun bt304 => ((laws_toSpan.f a3_0 a3_1 a3_2).bind fun bt307 => ((impl_BackMax.f k a0 t301 t302 t303 bt304.1 bt304.2.1 bt304.2.2 bt307.1 bt307.2.1 bt307.2.2).bind fun bt310 => ((laws_eqSpan.f bt310.1 bt310.2.1 bt310.2.2 t297 t298 t299).bind fun t314 => (if t314 = true then (some true) else (some false)))))) = some r := H
  have A9 := Aside0.mk A90
  clear A90
  have e_ := Option.some.inj (A5.out.symm.trans A9.out)
  simp only [Prod.mk.injEq] at e_
  obtain ⟨rfl, rfl, rfl⟩ := e_
  replace H := Option.bind_eq_some_iff.mp H
  obtain ⟨⟨t304, t305, t306⟩, A100, H⟩ := H
  replace H : ((laws_toSpan.f a3_0 a3_1 a3_2).bind fun bt307 => ((impl_BackMax.f k a0 t288 t289 t290 t304 t305 t306 bt307.1 bt307.2.1 bt307.2.2).bind fun bt310 => ((laws_eqSpan.f bt310.1 bt310.2.1 bt310.2.2 t297 t298 t299).bind fun t314 => (if t314 = true then (some true) else (some false))))) = some r := H
  have A10 := Aside0.mk A100
  clear A100
  have e_ := Option.some.inj (A6.out.symm.trans A10.out)
  simp only [Prod.mk.injEq] at e_
  obtain ⟨rfl, rfl, rfl⟩ := e_
  replace H := Option.bind_eq_some_iff.mp H
  obtain ⟨⟨t307, t308, t309⟩, A110, H⟩ := H
  replace H : ((impl_BackMax.f k a0 t288 t289 t290 t291 t292 t293 t307 t308 t309).bind fun bt310 => ((laws_eqSpan.f bt310.1 bt310.2.1 bt310.2.2 t297 t298 t299).bind fun t314 => (if t314 = true then (some true) else (some false)))) = some r := H
  have A11 := Aside0.mk A110
  clear A110
  have e_ := Option.some.inj (A7.out.symm.trans A11.out)
  simp only [Prod.mk.injEq] at e_
  obtain ⟨rfl, rfl, rfl⟩ := e_
  replace H := Option.bind_eq_some_iff.mp H
  obtain ⟨⟨t310, t311, t312⟩, A120, H⟩ := H
  replace H : ((laws_eqSpan.f t310 t311 t312 t297 t298 t299).bind fun t314 => (if t314 = true then (some true) else (some false))) = some r := H
  have A12 := Aside0.mk A120
  clear A120
  replace H := Option.bind_eq_some_iff.mp H
  obtain ⟨t314, A130, H⟩ := H
  replace H : (if t314 = true then (some true) else (some false)) = some r := H
  have A13 := Aside0.mk A130
  clear A130
  by_cases c14 : t314 = true
  · subst c14
    have H1 : (some true) = some r := by rw [if_pos rfl] at H; exact H
    clear H
    have H := H1
    clear H1
    clear hr
    obtain rfl := Option.some.inj H
    go_enter Try.func12, Try.ntmps12
    try go_wp2_with (first | ((with_reducible refine gate_dst (N := 5) rfl ?_); refine box_event ?hg (N := 5) ?hd (cs := #[.bool a1_0, .int .i64 a1_1, .int .i64 a1_2]) (t := 27) ?hr ?_; (case hd => rfl); (case hg => rfl); (case hr => first | (go_simp; done) | (go_simp; rfl)); intro gb285 hg w15 hbox hb; have n0_ := Aside0.mk (below_step (by repeat (first | (with_reducible first | exact HB.out | apply below_alloc | apply pw_below_drewN | apply below_drew1) | exact HB.out)) hb); have n1_ := Aside0.mk (hbox); have n2_ := Aside0.mk ((by rw [hg]; exact (below_size (by repeat (first | (with_reducible first | exact HB.out | apply below_alloc | apply pw_below_drewN | apply below_drew1) | exact HB.out))) : w.heap.size ≤ gb285)); have n3_ := Aside0.mk ((by rw [hg]; exact (below_size (by repeat (first | (with_reducible first | exact HB.out | apply below_alloc | apply pw_below_drewN | apply below_drew1) | exact HB.out))) : w.heap.size ≤ gb285)); clear HB; have HB := n0_; have BK285 := n1_; have GW285 := n2_; have GE285 := n3_; clear n0_ n1_ n2_ n3_; clear hb hbox hg) | ((with_reducible refine gate_dst (N := 6) rfl ?_); refine box_event ?hg (N := 6) ?hd (cs := #[.bool a2_0, .int .i64 a2_1, .int .i64 a2_2]) (t := 27) ?hr ?_; (case hd => rfl); (case hg => rfl); (case hr => first | (go_simp; done) | (go_simp; rfl)); intro gb286 hg w16 hbox hb; have n0_ := Aside0.mk (blk_below (g := gb285) (o := .cells #[.bool a1_0, .int .i64 a1_1, .int .i64 a1_2] 27 (0, 0)) (by (with_reducible repeat (first | refine blk_drewN ?_ _ | refine blk_drew ?_ | refine blk_alloc ?_ _)); exact BK285.out) hb); have n1_ := Aside0.mk (below_step (by repeat (first | (with_reducible first | exact HB.out | apply below_alloc | apply pw_below_drewN | apply below_drew1 | refine below_set ?_ GE285.out) | exact HB.out)) hb); have n2_ := Aside0.mk (hbox); have n3_ := Aside0.mk ((by rw [hg]; exact (below_size (by repeat (first | (with_reducible first | exact HB.out | apply below_alloc | apply pw_below_drewN | apply below_drew1 | refine below_set ?_ GE285.out) | exact HB.out))) : w.heap.size ≤ gb286)); have n4_ := Aside0.mk ((by rw [hg]; exact (below_size (by repeat (first | (with_reducible first | exact HB.out | apply below_alloc | apply pw_below_drewN | apply below_drew1 | refine below_set ?_ GE285.out) | exact HB.out))) : w.heap.size ≤ gb286)); have n5_ := Aside0.mk ((by rw [hg]; exact Nat.ne_of_lt (blk_lt (g := gb285) (o := .cells #[.bool a1_0, .int .i64 a1_1, .int .i64 a1_2] 27 (0, 0)) (by (with_reducible repeat (first | refine blk_drewN ?_ _ | refine blk_drew ?_ | refine blk_alloc ?_ _)); exact BK285.out)) : gb285 ≠ gb286)); have n6_ := Aside0.mk ((by rw [hg]; exact Nat.ne_of_gt (blk_lt (g := gb285) (o := .cells #[.bool a1_0, .int .i64 a1_1, .int .i64 a1_2] 27 (0, 0)) (by (with_reducible repeat (first | refine blk_drewN ?_ _ | refine blk_drew ?_ | refine blk_alloc ?_ _)); exact BK285.out)) : gb286 ≠ gb285)); clear BK285; clear HB; have BK285 := n0_; have HB := n1_; have BK286 := n2_; have GW286 := n3_; have GE286 := n4_; have NB285_286 := n5_; have NB286_285 := n6_; clear n0_ n1_ n2_ n3_ n4_ n5_ n6_; clear hb hbox hg) | ((with_reducible refine gate_dst (N := 7) rfl ?_); refine box_event ?hg (N := 7) ?hd (cs := #[.bool a3_0, .int .i64 a3_1, .int .i64 a3_2]) (t := 27) ?hr ?_; (case hd => rfl); (case hg => rfl); (case hr => first | (go_simp; done) | (go_simp; rfl)); intro gb287 hg w17 hbox hb; have n0_ := Aside0.mk (blk_below (g := gb285) (o := .cells #[.bool a1_0, .int .i64 a1_1, .int .i64 a1_2] 27 (0, 0)) (by (with_reducible repeat (first | refine blk_drewN ?_ _ | refine blk_drew ?_ | refine blk_alloc ?_ _)); exact BK285.out) hb); have n1_ := Aside0.mk (blk_below (g := gb286) (o := .cells #[.bool a2_0, .int .i64 a2_1, .int .i64 a2_2] 27 (0, 0)) (by (with_reducible repeat (first | refine blk_drewN ?_ _ | refine blk_drew ?_ | refine blk_alloc ?_ _)); exact BK286.out) hb); have n2_ := Aside0.mk (below_step (by repeat (first | (with_reducible first | exact HB.out | apply below_alloc | apply pw_below_drewN | apply below_drew1 | refine below_set ?_ GE285.out | refine below_set ?_ GE286.out) | exact HB.out)) hb); have n3_ := Aside0.mk (hbox); have n4_ := Aside0.mk ((by rw [hg]; exact (below_size (by repeat (first | (with_reducible first | exact HB.out | apply below_alloc | apply pw_below_drewN | apply below_drew1 | refine below_set ?_ GE285.out | refine below_set ?_ GE286.out) | exact HB.out))) : w.heap.size ≤ gb287)); have n5_ := Aside0.mk ((by rw [hg]; exact (below_size (by repeat (first | (with_reducible first | exact HB.out | apply below_alloc | apply pw_below_drewN | apply below_drew1 | refine below_set ?_ GE285.out | refine below_set ?_ GE286.out) | exact HB.out))) : w.heap.size ≤ gb287)); have n6_ := Aside0.mk ((by rw [hg]; exact Nat.ne_of_lt (blk_lt (g := gb285) (o := .cells #[.bool a1_0, .int .i64 a1_1, .int .i64 a1_2] 27 (0, 0)) (by (with_reducible repeat (first | refine blk_drewN ?_ _ | refine blk_drew ?_ | refine blk_alloc ?_ _)); exact BK285.out)) : gb285 ≠ gb287)); have n7_ := Aside0.mk ((by rw [hg]; exact Nat.ne_of_gt (blk_lt (g := gb285) (o := .cells #[.bool a1_0, .int .i64 a1_1, .int .i64 a1_2] 27 (0, 0)) (by (with_reducible repeat (first | refine blk_drewN ?_ _ | refine blk_drew ?_ | refine blk_alloc ?_ _)); exact BK285.out)) : gb287 ≠ gb285)); have n8_ := Aside0.mk ((by rw [hg]; exact Nat.ne_of_lt (blk_lt (g := gb286) (o := .cells #[.bool a2_0, .int .i64 a2_1, .int .i64 a2_2] 27 (0, 0)) (by (with_reducible repeat (first | refine blk_drewN ?_ _ | refine blk_drew ?_ | refine blk_alloc ?_ _)); exact BK286.out)) : gb286 ≠ gb287)); have n9_ := Aside0.mk ((by rw [hg]; exact Nat.ne_of_gt (blk_lt (g := gb286) (o := .cells #[.bool a2_0, .int .i64 a2_1, .int .i64 a2_2] 27 (0, 0)) (by (with_reducible repeat (first | refine blk_drewN ?_ _ | refine blk_drew ?_ | refine blk_alloc ?_ _)); exact BK286.out)) : gb287 ≠ gb286)); clear BK285; clear BK286; clear HB; have BK285 := n0_; have BK286 := n1_; have HB := n2_; have BK287 := n3_; have GW287 := n4_; have GE287 := n5_; have NB285_287 := n6_; have NB287_285 := n7_; have NB286_287 := n8_; have NB287_286 := n9_; clear n0_ n1_ n2_ n3_ n4_ n5_ n6_ n7_ n8_ n9_; clear hb hbox hg))
    have n0_ := Aside0.mk (blk_drew BK285.out)
    have n1_ := Aside0.mk (blk_drew BK286.out)
    have n2_ := Aside0.mk (blk_drew BK287.out)
    have n3_ := Aside0.mk (below_drew1 HB.out)
    clear BK285
    clear BK286
    clear BK287
    clear HB
    have BK285 := n0_
    have BK286 := n1_
    have BK287 := n2_
    have HB := n3_
    clear n0_ n1_ n2_ n3_
    refine start_ (n := 10) (S := fun w' => w'.cell? ⟨gb285, 0, none⟩ = some (.bool a1_0) ∧ w'.cell? ⟨gb285, 1, none⟩ = some (.int .i64 a1_1) ∧ w'.cell? ⟨gb285, 2, none⟩ = some (.int .i64 a1_2) ∧ w'.cell? ⟨gb286, 0, none⟩ = some (.bool a2_0) ∧ w'.cell? ⟨gb286, 1, none⟩ = some (.int .i64 a2_1) ∧ w'.cell? ⟨gb286, 2, none⟩ = some (.int .i64 a2_2) ∧ w'.cell? ⟨gb287, 0, none⟩ = some (.bool a3_0) ∧ w'.cell? ⟨gb287, 1, none⟩ = some (.int .i64 a3_1) ∧ w'.cell? ⟨gb287, 2, none⟩ = some (.int .i64 a3_2)) (ds := []) #[false, false, false, false, false, false, false, false, false, false] (by kernel_rfl) rfl rfl ⟨(blk_cell BK285.out 0).trans rfl, (blk_cell BK285.out 1).trans rfl, (blk_cell BK285.out 2).trans rfl, (blk_cell BK286.out 0).trans rfl, (blk_cell BK286.out 1).trans rfl, (blk_cell BK286.out 2).trans rfl, (blk_cell BK287.out 0).trans rfl, (blk_cell BK287.out 1).trans rfl, (blk_cell BK287.out 2).trans rfl⟩ (fun hHeld => ?_); refine with_tabW laws_FnExactBackMax.tab1 laws_FnExactBackMax.bits1 (fun HT_ HW_ => ?_)
    generalize w17.drew = w18 at BK285 BK286 BK287 HB hHeld ⊢
    refine pure_ (i := 0) (N := some 11) (v := ?_) (a' := ?_) #[true, false, false, false, false, false, false, false, false, false] rfl rfl (any_of HT_.out (by kernel_rfl)) (fun _ _ _ h => h) (Or.inl ⟨by rfl, ?_⟩) ?_ ?_
    rotate_left
    · intro w'
      go_simp
      with_reducible rfl
    rotate_left
    · simp only [Act.put, List.setIfInBounds_toArray, List.set_cons_zero, List.set_cons_succ, i64_w, i32_w]
      rfl
    refine take_ (i := 1) (N := some 12) (v := ?_) (a' := ?_) #[true, true, false, false, false, false, false, false, false, false] rfl rfl (take_ofW HT_.out HW_.out (by kernel_rfl)) (fun _ _ _ h => h) (Or.inl ⟨by rfl, ?_⟩) hHeld ?_ ?_
    rotate_left
    · rintro w' ⟨s0, s1, s2, s3, s4, s5, s6, s7, s8⟩
      go_simp
      with_reducible rfl
    rotate_left
    · simp only [Act.put, List.setIfInBounds_toArray, List.set_cons_zero, List.set_cons_succ, i64_w, i32_w]
      rfl
    refine take_ (i := 3) (N := some 14) (v := ?_) (a' := ?_) #[true, true, false, true, false, false, false, false, false, false] rfl rfl (take_ofW HT_.out HW_.out (by kernel_rfl)) (fun _ _ _ h => h) (Or.inl ⟨by rfl, ?_⟩) hHeld ?_ ?_
    rotate_left
    · rintro w' ⟨s0, s1, s2, s3, s4, s5, s6, s7, s8⟩
      go_simp
      with_reducible rfl
    rotate_left
    · simp only [Act.put, List.setIfInBounds_toArray, List.set_cons_zero, List.set_cons_succ, i64_w, i32_w]
      rfl
    refine take_ (i := 5) (N := some 16) (v := ?_) (a' := ?_) #[true, true, false, true, false, true, false, false, false, false] rfl rfl (take_ofW HT_.out HW_.out (by kernel_rfl)) (fun _ _ _ h => h) (Or.inl ⟨by rfl, ?_⟩) hHeld ?_ ?_
    rotate_left
    · rintro w' ⟨s0, s1, s2, s3, s4, s5, s6, s7, s8⟩
      go_simp
      with_reducible rfl
    rotate_left
    · simp only [Act.put, List.setIfInBounds_toArray, List.set_cons_zero, List.set_cons_succ, i64_w, i32_w]
      rfl
    refine join_ (σ := Nat) 1 #[true, true, true, true, true, true, true, true, true, false] (fun s_ => [(13, .agg #[.bool t288, .int .i64 t289, .int .i64 t290]), (15, .agg #[.bool t291, .int .i64 t292, .int .i64 t293]), (17, .agg #[.bool t294, .int .i64 t295, .int .i64 t296]), (18, .agg #[.bool t297, .int .i64 t298, .int .i64 t299]), (9, .pointer (some ⟨s_, 0, none⟩))]) (fun s_ w' => (w'.cell? ⟨gb285, 0, none⟩ = some (.bool a1_0) ∧ w'.cell? ⟨gb285, 1, none⟩ = some (.int .i64 a1_1) ∧ w'.cell? ⟨gb285, 2, none⟩ = some (.int .i64 a1_2) ∧ w'.cell? ⟨gb286, 0, none⟩ = some (.bool a2_0) ∧ w'.cell? ⟨gb286, 1, none⟩ = some (.int .i64 a2_1) ∧ w'.cell? ⟨gb286, 2, none⟩ = some (.int .i64 a2_2) ∧ w'.cell? ⟨gb287, 0, none⟩ = some (.bool a3_0) ∧ w'.cell? ⟨gb287, 1, none⟩ = some (.int .i64 a3_1) ∧ w'.cell? ⟨gb287, 2, none⟩ = some (.int .i64 a3_2)) ∧ (w'.heap[gb285]? = some (.cells #[.bool a1_0, .int .i64 a1_1, .int .i64 a1_2] 27 (0, 0))) ∧ (w'.heap[gb286]? = some (.cells #[.bool a2_0, .int .i64 a2_1, .int .i64 a2_2] 27 (0, 0))) ∧ (w'.heap[gb287]? = some (.cells #[.bool a3_0, .int .i64 a3_1, .int .i64 a3_2] 27 (0, 0))) ∧ (w'.heap[s_]? = some (.cells #[.bool false, .int .i64 0, .int .i64 0] 23 (0, 0))) ∧ (w.heap.size ≤ s_) ∧ (w.heap.size ≤ s_) ∧ (gb285 ≠ s_) ∧ (s_ ≠ gb285) ∧ (gb286 ≠ s_) ∧ (s_ ≠ gb286) ∧ (gb287 ≠ s_) ∧ (s_ ≠ gb287) ∧ (Below w.heap.size w w')) ?_ ?_
    rotate_left
    · intro hJ2_4_6_7_8
      refine join_ (σ := Unit) 2 #[true, true, true, true, true, true, true, true, false, false] (fun s_ => [(13, .agg #[.bool t288, .int .i64 t289, .int .i64 t290]), (15, .agg #[.bool t291, .int .i64 t292, .int .i64 t293]), (17, .agg #[.bool t294, .int .i64 t295, .int .i64 t296]), (18, .agg #[.bool t297, .int .i64 t298, .int .i64 t299])]) (fun s_ w' => (w'.cell? ⟨gb285, 0, none⟩ = some (.bool a1_0) ∧ w'.cell? ⟨gb285, 1, none⟩ = some (.int .i64 a1_1) ∧ w'.cell? ⟨gb285, 2, none⟩ = some (.int .i64 a1_2) ∧ w'.cell? ⟨gb286, 0, none⟩ = some (.bool a2_0) ∧ w'.cell? ⟨gb286, 1, none⟩ = some (.int .i64 a2_1) ∧ w'.cell? ⟨gb286, 2, none⟩ = some (.int .i64 a2_2) ∧ w'.cell? ⟨gb287, 0, none⟩ = some (.bool a3_0) ∧ w'.cell? ⟨gb287, 1, none⟩ = some (.int .i64 a3_1) ∧ w'.cell? ⟨gb287, 2, none⟩ = some (.int .i64 a3_2)) ∧ (w'.heap[gb285]? = some (.cells #[.bool a1_0, .int .i64 a1_1, .int .i64 a1_2] 27 (0, 0))) ∧ (w'.heap[gb286]? = some (.cells #[.bool a2_0, .int .i64 a2_1, .int .i64 a2_2] 27 (0, 0))) ∧ (w'.heap[gb287]? = some (.cells #[.bool a3_0, .int .i64 a3_1, .int .i64 a3_2] 27 (0, 0))) ∧ (Below w.heap.size w w')) ?_ ?_
      rotate_left
      · intro hJ2_4_6_7
        refine join_ (σ := Nat) 2 #[true, true, true, true, true, true, true, false, true, false] (fun s_ => [(13, .agg #[.bool t288, .int .i64 t289, .int .i64 t290]), (15, .agg #[.bool t291, .int .i64 t292, .int .i64 t293]), (17, .agg #[.bool t294, .int .i64 t295, .int .i64 t296]), (9, .pointer (some ⟨s_, 0, none⟩))]) (fun s_ w' => (w'.cell? ⟨gb285, 0, none⟩ = some (.bool a1_0) ∧ w'.cell? ⟨gb285, 1, none⟩ = some (.int .i64 a1_1) ∧ w'.cell? ⟨gb285, 2, none⟩ = some (.int .i64 a1_2) ∧ w'.cell? ⟨gb286, 0, none⟩ = some (.bool a2_0) ∧ w'.cell? ⟨gb286, 1, none⟩ = some (.int .i64 a2_1) ∧ w'.cell? ⟨gb286, 2, none⟩ = some (.int .i64 a2_2) ∧ w'.cell? ⟨gb287, 0, none⟩ = some (.bool a3_0) ∧ w'.cell? ⟨gb287, 1, none⟩ = some (.int .i64 a3_1) ∧ w'.cell? ⟨gb287, 2, none⟩ = some (.int .i64 a3_2)) ∧ (w'.heap[gb285]? = some (.cells #[.bool a1_0, .int .i64 a1_1, .int .i64 a1_2] 27 (0, 0))) ∧ (w'.heap[gb286]? = some (.cells #[.bool a2_0, .int .i64 a2_1, .int .i64 a2_2] 27 (0, 0))) ∧ (w'.heap[gb287]? = some (.cells #[.bool a3_0, .int .i64 a3_1, .int .i64 a3_2] 27 (0, 0))) ∧ (w'.heap[s_]? = some (.cells #[.bool false, .int .i64 0, .int .i64 0] 23 (0, 0))) ∧ (w.heap.size ≤ s_) ∧ (w.heap.size ≤ s_) ∧ (gb285 ≠ s_) ∧ (s_ ≠ gb285) ∧ (gb286 ≠ s_) ∧ (s_ ≠ gb286) ∧ (gb287 ≠ s_) ∧ (s_ ≠ gb287) ∧ (Below w.heap.size w w')) ?_ ?_
        rotate_left
        · intro hJ2_4_6_8
          refine join_ (σ := Unit) 3 #[true, true, true, true, true, true, true, false, false, false] (fun s_ => [(13, .agg #[.bool t288, .int .i64 t289, .int .i64 t290]), (15, .agg #[.bool t291, .int .i64 t292, .int .i64 t293]), (17, .agg #[.bool t294, .int .i64 t295, .int .i64 t296])]) (fun s_ w' => (w'.cell? ⟨gb285, 0, none⟩ = some (.bool a1_0) ∧ w'.cell? ⟨gb285, 1, none⟩ = some (.int .i64 a1_1) ∧ w'.cell? ⟨gb285, 2, none⟩ = some (.int .i64 a1_2) ∧ w'.cell? ⟨gb286, 0, none⟩ = some (.bool a2_0) ∧ w'.cell? ⟨gb286, 1, none⟩ = some (.int .i64 a2_1) ∧ w'.cell? ⟨gb286, 2, none⟩ = some (.int .i64 a2_2) ∧ w'.cell? ⟨gb287, 0, none⟩ = some (.bool a3_0) ∧ w'.cell? ⟨gb287, 1, none⟩ = some (.int .i64 a3_1) ∧ w'.cell? ⟨gb287, 2, none⟩ = some (.int .i64 a3_2)) ∧ (w'.heap[gb285]? = some (.cells #[.bool a1_0, .int .i64 a1_1, .int .i64 a1_2] 27 (0, 0))) ∧ (w'.heap[gb286]? = some (.cells #[.bool a2_0, .int .i64 a2_1, .int .i64 a2_2] 27 (0, 0))) ∧ (w'.heap[gb287]? = some (.cells #[.bool a3_0, .int .i64 a3_1, .int .i64 a3_2] 27 (0, 0))) ∧ (Below w.heap.size w w')) ?_ ?_
          rotate_left
          · intro hJ2_4_6
            refine join_ (σ := Nat) 3 #[true, true, true, true, true, true, false, false, true, false] (fun s_ => [(13, .agg #[.bool t288, .int .i64 t289, .int .i64 t290]), (15, .agg #[.bool t291, .int .i64 t292, .int .i64 t293]), (9, .pointer (some ⟨s_, 0, none⟩))]) (fun s_ w' => (w'.cell? ⟨gb285, 0, none⟩ = some (.bool a1_0) ∧ w'.cell? ⟨gb285, 1, none⟩ = some (.int .i64 a1_1) ∧ w'.cell? ⟨gb285, 2, none⟩ = some (.int .i64 a1_2) ∧ w'.cell? ⟨gb286, 0, none⟩ = some (.bool a2_0) ∧ w'.cell? ⟨gb286, 1, none⟩ = some (.int .i64 a2_1) ∧ w'.cell? ⟨gb286, 2, none⟩ = some (.int .i64 a2_2) ∧ w'.cell? ⟨gb287, 0, none⟩ = some (.bool a3_0) ∧ w'.cell? ⟨gb287, 1, none⟩ = some (.int .i64 a3_1) ∧ w'.cell? ⟨gb287, 2, none⟩ = some (.int .i64 a3_2)) ∧ (w'.heap[gb285]? = some (.cells #[.bool a1_0, .int .i64 a1_1, .int .i64 a1_2] 27 (0, 0))) ∧ (w'.heap[gb286]? = some (.cells #[.bool a2_0, .int .i64 a2_1, .int .i64 a2_2] 27 (0, 0))) ∧ (w'.heap[gb287]? = some (.cells #[.bool a3_0, .int .i64 a3_1, .int .i64 a3_2] 27 (0, 0))) ∧ (w'.heap[s_]? = some (.cells #[.bool false, .int .i64 0, .int .i64 0] 23 (0, 0))) ∧ (w.heap.size ≤ s_) ∧ (w.heap.size ≤ s_) ∧ (gb285 ≠ s_) ∧ (s_ ≠ gb285) ∧ (gb286 ≠ s_) ∧ (s_ ≠ gb286) ∧ (gb287 ≠ s_) ∧ (s_ ≠ gb287) ∧ (Below w.heap.size w w')) ?_ ?_
            rotate_left
            · intro hJ2_4_8
              refine join_ (σ := Unit) 4 #[true, true, true, true, true, true, false, false, false, false] (fun s_ => [(13, .agg #[.bool t288, .int .i64 t289, .int .i64 t290]), (15, .agg #[.bool t291, .int .i64 t292, .int .i64 t293])]) (fun s_ w' => (w'.cell? ⟨gb285, 0, none⟩ = some (.bool a1_0) ∧ w'.cell? ⟨gb285, 1, none⟩ = some (.int .i64 a1_1) ∧ w'.cell? ⟨gb285, 2, none⟩ = some (.int .i64 a1_2) ∧ w'.cell? ⟨gb286, 0, none⟩ = some (.bool a2_0) ∧ w'.cell? ⟨gb286, 1, none⟩ = some (.int .i64 a2_1) ∧ w'.cell? ⟨gb286, 2, none⟩ = some (.int .i64 a2_2) ∧ w'.cell? ⟨gb287, 0, none⟩ = some (.bool a3_0) ∧ w'.cell? ⟨gb287, 1, none⟩ = some (.int .i64 a3_1) ∧ w'.cell? ⟨gb287, 2, none⟩ = some (.int .i64 a3_2)) ∧ (w'.heap[gb285]? = some (.cells #[.bool a1_0, .int .i64 a1_1, .int .i64 a1_2] 27 (0, 0))) ∧ (w'.heap[gb286]? = some (.cells #[.bool a2_0, .int .i64 a2_1, .int .i64 a2_2] 27 (0, 0))) ∧ (w'.heap[gb287]? = some (.cells #[.bool a3_0, .int .i64 a3_1, .int .i64 a3_2] 27 (0, 0))) ∧ (Below w.heap.size w w')) ?_ ?_
              rotate_left
              · intro hJ2_4
                refine join_ (σ := Nat) 4 #[true, true, true, true, false, true, false, false, true, false] (fun s_ => [(13, .agg #[.bool t288, .int .i64 t289, .int .i64 t290]), (9, .pointer (some ⟨s_, 0, none⟩))]) (fun s_ w' => (w'.cell? ⟨gb285, 0, none⟩ = some (.bool a1_0) ∧ w'.cell? ⟨gb285, 1, none⟩ = some (.int .i64 a1_1) ∧ w'.cell? ⟨gb285, 2, none⟩ = some (.int .i64 a1_2) ∧ w'.cell? ⟨gb286, 0, none⟩ = some (.bool a2_0) ∧ w'.cell? ⟨gb286, 1, none⟩ = some (.int .i64 a2_1) ∧ w'.cell? ⟨gb286, 2, none⟩ = some (.int .i64 a2_2) ∧ w'.cell? ⟨gb287, 0, none⟩ = some (.bool a3_0) ∧ w'.cell? ⟨gb287, 1, none⟩ = some (.int .i64 a3_1) ∧ w'.cell? ⟨gb287, 2, none⟩ = some (.int .i64 a3_2)) ∧ (w'.heap[gb285]? = some (.cells #[.bool a1_0, .int .i64 a1_1, .int .i64 a1_2] 27 (0, 0))) ∧ (w'.heap[gb286]? = some (.cells #[.bool a2_0, .int .i64 a2_1, .int .i64 a2_2] 27 (0, 0))) ∧ (w'.heap[gb287]? = some (.cells #[.bool a3_0, .int .i64 a3_1, .int .i64 a3_2] 27 (0, 0))) ∧ (w'.heap[s_]? = some (.cells #[.bool false, .int .i64 0, .int .i64 0] 23 (0, 0))) ∧ (w.heap.size ≤ s_) ∧ (w.heap.size ≤ s_) ∧ (gb285 ≠ s_) ∧ (s_ ≠ gb285) ∧ (gb286 ≠ s_) ∧ (s_ ≠ gb286) ∧ (gb287 ≠ s_) ∧ (s_ ≠ gb287) ∧ (Below w.heap.size w w')) ?_ ?_
                rotate_left
                · intro hJ2_8
                  refine join_ (σ := Unit) 5 #[true, true, true, true, false, true, false, false, false, false] (fun s_ => [(13, .agg #[.bool t288, .int .i64 t289, .int .i64 t290])]) (fun s_ w' => (w'.cell? ⟨gb285, 0, none⟩ = some (.bool a1_0) ∧ w'.cell? ⟨gb285, 1, none⟩ = some (.int .i64 a1_1) ∧ w'.cell? ⟨gb285, 2, none⟩ = some (.int .i64 a1_2) ∧ w'.cell? ⟨gb286, 0, none⟩ = some (.bool a2_0) ∧ w'.cell? ⟨gb286, 1, none⟩ = some (.int .i64 a2_1) ∧ w'.cell? ⟨gb286, 2, none⟩ = some (.int .i64 a2_2) ∧ w'.cell? ⟨gb287, 0, none⟩ = some (.bool a3_0) ∧ w'.cell? ⟨gb287, 1, none⟩ = some (.int .i64 a3_1) ∧ w'.cell? ⟨gb287, 2, none⟩ = some (.int .i64 a3_2)) ∧ (w'.heap[gb285]? = some (.cells #[.bool a1_0, .int .i64 a1_1, .int .i64 a1_2] 27 (0, 0))) ∧ (w'.heap[gb286]? = some (.cells #[.bool a2_0, .int .i64 a2_1, .int .i64 a2_2] 27 (0, 0))) ∧ (w'.heap[gb287]? = some (.cells #[.bool a3_0, .int .i64 a3_1, .int .i64 a3_2] 27 (0, 0))) ∧ (Below w.heap.size w w')) ?_ ?_
                  rotate_left
                  · intro hJ2
                    refine join_ (σ := Nat) 5 #[true, true, false, true, false, true, false, false, true, false] (fun s_ => [(9, .pointer (some ⟨s_, 0, none⟩))]) (fun s_ w' => (w'.cell? ⟨gb285, 0, none⟩ = some (.bool a1_0) ∧ w'.cell? ⟨gb285, 1, none⟩ = some (.int .i64 a1_1) ∧ w'.cell? ⟨gb285, 2, none⟩ = some (.int .i64 a1_2) ∧ w'.cell? ⟨gb286, 0, none⟩ = some (.bool a2_0) ∧ w'.cell? ⟨gb286, 1, none⟩ = some (.int .i64 a2_1) ∧ w'.cell? ⟨gb286, 2, none⟩ = some (.int .i64 a2_2) ∧ w'.cell? ⟨gb287, 0, none⟩ = some (.bool a3_0) ∧ w'.cell? ⟨gb287, 1, none⟩ = some (.int .i64 a3_1) ∧ w'.cell? ⟨gb287, 2, none⟩ = some (.int .i64 a3_2)) ∧ (w'.heap[gb285]? = some (.cells #[.bool a1_0, .int .i64 a1_1, .int .i64 a1_2] 27 (0, 0))) ∧ (w'.heap[gb286]? = some (.cells #[.bool a2_0, .int .i64 a2_1, .int .i64 a2_2] 27 (0, 0))) ∧ (w'.heap[gb287]? = some (.cells #[.bool a3_0, .int .i64 a3_1, .int .i64 a3_2] 27 (0, 0))) ∧ (w'.heap[s_]? = some (.cells #[.bool false, .int .i64 0, .int .i64 0] 23 (0, 0))) ∧ (w.heap.size ≤ s_) ∧ (w.heap.size ≤ s_) ∧ (gb285 ≠ s_) ∧ (s_ ≠ gb285) ∧ (gb286 ≠ s_) ∧ (s_ ≠ gb286) ∧ (gb287 ≠ s_) ∧ (s_ ≠ gb287) ∧ (Below w.heap.size w w')) ?_ ?_
                    rotate_left
                    · intro hJ8
                      refine two_ (i := 2) (j := 8) (Ni := some 13) (Nj := some 9) #[true, true, true, true, false, true, false, false, false, false] #[true, true, false, true, false, true, false, false, true, false] rfl rfl rfl rfl (two_of HT_.out (by kernel_rfl)) (by decide) (by decide) (fun K hK => ?_) (fun K hK => ?_)
                      · skip
                        refine goes_ Try.func19 (by kernel_rfl) rfl #[.agg #[.bool a1_0, .int .i64 a1_1, .int .i64 a1_2]] (by rfl) rfl rfl (by (try simp only [List.map_toArray, List.map_cons, List.map_nil]); first | done | rfl | (simp only [List.length_drop, List.length_take]; rfl)) ?_
                        with_reducible refine (laws_toSpan.calls a1_0 a1_1 a1_2 t288 t289 t290 _ A5.out).mono ?_
                        rintro e w19 ⟨rfl, hb⟩
                        refine ⟨_, rfl, ?_⟩
                        have n0_ := Aside0.mk (blk_below (g := gb285) (o := .cells #[.bool a1_0, .int .i64 a1_1, .int .i64 a1_2] 27 (0, 0)) (by (with_reducible repeat (first | refine blk_drewN ?_ _ | refine blk_drew ?_ | refine blk_alloc ?_ _)); exact BK285.out) hb)
                        have n1_ := Aside0.mk (blk_below (g := gb286) (o := .cells #[.bool a2_0, .int .i64 a2_1, .int .i64 a2_2] 27 (0, 0)) (by (with_reducible repeat (first | refine blk_drewN ?_ _ | refine blk_drew ?_ | refine blk_alloc ?_ _)); exact BK286.out) hb)
                        have n2_ := Aside0.mk (blk_below (g := gb287) (o := .cells #[.bool a3_0, .int .i64 a3_1, .int .i64 a3_2] 27 (0, 0)) (by (with_reducible repeat (first | refine blk_drewN ?_ _ | refine blk_drew ?_ | refine blk_alloc ?_ _)); exact BK287.out) hb)
                        have n3_ := Aside0.mk (below_step (by repeat (first | (with_reducible first | exact HB.out | apply below_alloc | apply pw_below_drewN | apply below_drew1 | refine below_set ?_ GE285.out | refine below_set ?_ GE286.out | refine below_set ?_ GE287.out) | exact HB.out)) hb)
                        clear BK285
                        clear BK286
                        clear BK287
                        clear HB
                        have BK285 := n0_
                        have BK286 := n1_
                        have BK287 := n2_
                        have HB := n3_
                        clear n0_ n1_ n2_ n3_
                        (try clear hb)
                        (try clear hb2)
                        (try clear hk)
                        (try clear hi)
                        refine hK.out _ _ ⟨(blk_cell BK285.out 0).trans rfl, (blk_cell BK285.out 1).trans rfl, (blk_cell BK285.out 2).trans rfl, (blk_cell BK286.out 0).trans rfl, (blk_cell BK286.out 1).trans rfl, (blk_cell BK286.out 2).trans rfl, (blk_cell BK287.out 0).trans rfl, (blk_cell BK287.out 1).trans rfl, (blk_cell BK287.out 2).trans rfl⟩ (fun hHeld => ?_)
                        clear hK K
                        refine norm_ (a' := ?_) ?_ ?_
                        rotate_left
                        · show Act.put _ (some 13) _ = _
                          simp only [Act.put, List.setIfInBounds_toArray, List.set_cons_zero, List.set_cons_succ, i64_w, i32_w]
                          rfl
                        exact norm_ (by first | (simp only [putAll, Act.put, List.setIfInBounds_toArray, List.set_cons_zero, List.set_cons_succ]; done) | (simp only [putAll, Act.put, List.setIfInBounds_toArray, List.set_cons_zero, List.set_cons_succ]; rfl)) (hJ2 () _ ⟨hHeld, (by (with_reducible repeat (first | refine blk_drewN ?_ _ | refine blk_drew ?_ | refine blk_alloc ?_ _)); exact BK285.out), (by (with_reducible repeat (first | refine blk_drewN ?_ _ | refine blk_drew ?_ | refine blk_alloc ?_ _)); exact BK286.out), (by (with_reducible repeat (first | refine blk_drewN ?_ _ | refine blk_drew ?_ | refine blk_alloc ?_ _)); exact BK287.out), (by repeat (first | (with_reducible first | exact HB.out | apply below_alloc | apply pw_below_drewN | apply below_drew1 | refine below_set ?_ GE285.out | refine below_set ?_ GE286.out | refine below_set ?_ GE287.out) | exact HB.out))⟩)
                      · skip
                        refine box_step ?hg (N := 9) ?hd (cs := #[.bool false, .int .i64 0, .int .i64 0]) (t := 23) ?hr ?_; (case hd => rfl); (case hg => rfl); (case hr => first | (go_simp; done) | (go_simp; rfl))
                        intro gb300 hg w19 hbox hb
                        have n0_ := Aside0.mk (blk_below (g := gb285) (o := .cells #[.bool a1_0, .int .i64 a1_1, .int .i64 a1_2] 27 (0, 0)) (by (with_reducible repeat (first | refine blk_drewN ?_ _ | refine blk_drew ?_ | refine blk_alloc ?_ _)); exact BK285.out) hb)
                        have n1_ := Aside0.mk (blk_below (g := gb286) (o := .cells #[.bool a2_0, .int .i64 a2_1, .int .i64 a2_2] 27 (0, 0)) (by (with_reducible repeat (first | refine blk_drewN ?_ _ | refine blk_drew ?_ | refine blk_alloc ?_ _)); exact BK286.out) hb)
                        have n2_ := Aside0.mk (blk_below (g := gb287) (o := .cells #[.bool a3_0, .int .i64 a3_1, .int .i64 a3_2] 27 (0, 0)) (by (with_reducible repeat (first | refine blk_drewN ?_ _ | refine blk_drew ?_ | refine blk_alloc ?_ _)); exact BK287.out) hb)
                        have n3_ := Aside0.mk (below_step (by repeat (first | (with_reducible first | exact HB.out | apply below_alloc | apply pw_below_drewN | apply below_drew1 | refine below_set ?_ GE285.out | refine below_set ?_ GE286.out | refine below_set ?_ GE287.out) | exact HB.out)) hb)
                        have n4_ := Aside0.mk (hbox)
                        have n5_ := Aside0.mk ((by rw [hg]; exact (below_size (by repeat (first | (with_reducible first | exact HB.out | apply below_alloc | apply pw_below_drewN | apply below_drew1 | refine below_set ?_ GE285.out | refine below_set ?_ GE286.out | refine below_set ?_ GE287.out) | exact HB.out))) : w.heap.size ≤ gb300))
                        have n6_ := Aside0.mk ((by rw [hg]; exact (below_size (by repeat (first | (with_reducible first | exact HB.out | apply below_alloc | apply pw_below_drewN | apply below_drew1 | refine below_set ?_ GE285.out | refine below_set ?_ GE286.out | refine below_set ?_ GE287.out) | exact HB.out))) : w.heap.size ≤ gb300))
                        have n7_ := Aside0.mk ((by rw [hg]; exact Nat.ne_of_lt (blk_lt (g := gb285) (o := .cells #[.bool a1_0, .int .i64 a1_1, .int .i64 a1_2] 27 (0, 0)) (by (with_reducible repeat (first | refine blk_drewN ?_ _ | refine blk_drew ?_ | refine blk_alloc ?_ _)); exact BK285.out)) : gb285 ≠ gb300))
                        have n8_ := Aside0.mk ((by rw [hg]; exact Nat.ne_of_gt (blk_lt (g := gb285) (o := .cells #[.bool a1_0, .int .i64 a1_1, .int .i64 a1_2] 27 (0, 0)) (by (with_reducible repeat (first | refine blk_drewN ?_ _ | refine blk_drew ?_ | refine blk_alloc ?_ _)); exact BK285.out)) : gb300 ≠ gb285))
                        have n9_ := Aside0.mk ((by rw [hg]; exact Nat.ne_of_lt (blk_lt (g := gb286) (o := .cells #[.bool a2_0, .int .i64 a2_1, .int .i64 a2_2] 27 (0, 0)) (by (with_reducible repeat (first | refine blk_drewN ?_ _ | refine blk_drew ?_ | refine blk_alloc ?_ _)); exact BK286.out)) : gb286 ≠ gb300))
                        have n10_ := Aside0.mk ((by rw [hg]; exact Nat.ne_of_gt (blk_lt (g := gb286) (o := .cells #[.bool a2_0, .int .i64 a2_1, .int .i64 a2_2] 27 (0, 0)) (by (with_reducible repeat (first | refine blk_drewN ?_ _ | refine blk_drew ?_ | refine blk_alloc ?_ _)); exact BK286.out)) : gb300 ≠ gb286))
                        have n11_ := Aside0.mk ((by rw [hg]; exact Nat.ne_of_lt (blk_lt (g := gb287) (o := .cells #[.bool a3_0, .int .i64 a3_1, .int .i64 a3_2] 27 (0, 0)) (by (with_reducible repeat (first | refine blk_drewN ?_ _ | refine blk_drew ?_ | refine blk_alloc ?_ _)); exact BK287.out)) : gb287 ≠ gb300))
                        have n12_ := Aside0.mk ((by rw [hg]; exact Nat.ne_of_gt (blk_lt (g := gb287) (o := .cells #[.bool a3_0, .int .i64 a3_1, .int .i64 a3_2] 27 (0, 0)) (by (with_reducible repeat (first | refine blk_drewN ?_ _ | refine blk_drew ?_ | refine blk_alloc ?_ _)); exact BK287.out)) : gb300 ≠ gb287))
                        clear BK285
                        clear BK286
                        clear BK287
                        clear HB
                        have BK285 := n0_
                        have BK286 := n1_
                        have BK287 := n2_
                        have HB := n3_
                        have BK300 := n4_
                        have GW300 := n5_
                        have GE300 := n6_
                        have NB285_300 := n7_
                        have NB300_285 := n8_
                        have NB286_300 := n9_
                        have NB300_286 := n10_
                        have NB287_300 := n11_
                        have NB300_287 := n12_
                        clear n0_ n1_ n2_ n3_ n4_ n5_ n6_ n7_ n8_ n9_ n10_ n11_ n12_
                        clear hb hbox hg
                        refine hK.out _ _ ⟨(blk_cell BK285.out 0).trans rfl, (blk_cell BK285.out 1).trans rfl, (blk_cell BK285.out 2).trans rfl, (blk_cell BK286.out 0).trans rfl, (blk_cell BK286.out 1).trans rfl, (blk_cell BK286.out 2).trans rfl, (blk_cell BK287.out 0).trans rfl, (blk_cell BK287.out 1).trans rfl, (blk_cell BK287.out 2).trans rfl⟩ (fun hHeld => ?_)
                        clear hK K
                        refine norm_ (a' := ?_) ?_ ?_
                        rotate_left
                        · show Act.put _ (some 9) _ = _
                          simp only [Act.put, List.setIfInBounds_toArray, List.set_cons_zero, List.set_cons_succ, i64_w, i32_w]
                          rfl
                        exact norm_ (by first | (simp only [putAll, Act.put, List.setIfInBounds_toArray, List.set_cons_zero, List.set_cons_succ]; done) | (simp only [putAll, Act.put, List.setIfInBounds_toArray, List.set_cons_zero, List.set_cons_succ]; rfl)) (hJ8 (gb300) _ ⟨hHeld, (by (with_reducible repeat (first | refine blk_drewN ?_ _ | refine blk_drew ?_ | refine blk_alloc ?_ _)); exact BK285.out), (by (with_reducible repeat (first | refine blk_drewN ?_ _ | refine blk_drew ?_ | refine blk_alloc ?_ _)); exact BK286.out), (by (with_reducible repeat (first | refine blk_drewN ?_ _ | refine blk_drew ?_ | refine blk_alloc ?_ _)); exact BK287.out), (by (with_reducible repeat (first | refine blk_drewN ?_ _ | refine blk_drew ?_ | refine blk_alloc ?_ _)); exact BK300.out), GW300.out, GE300.out, NB285_300.out, NB300_285.out, NB286_300.out, NB300_286.out, NB287_300.out, NB300_287.out, (by repeat (first | (with_reducible first | exact HB.out | apply below_alloc | apply pw_below_drewN | apply below_drew1 | refine below_set ?_ GE285.out | refine below_set ?_ GE286.out | refine below_set ?_ GE287.out | refine below_set ?_ GE300.out) | exact HB.out))⟩)
                    · skip
                      rintro gb300 w20 ⟨hS_, h0_, h1_, h2_, h3_, h4_, h5_, h6_, h7_, h8_, h9_, h10_, h11_, h12_⟩
                      have n0_ : Aside0 (w20.heap[gb285]? = some (.cells #[.bool a1_0, .int .i64 a1_1, .int .i64 a1_2] 27 (0, 0))) := ⟨h0_⟩
                      have n1_ : Aside0 (w20.heap[gb286]? = some (.cells #[.bool a2_0, .int .i64 a2_1, .int .i64 a2_2] 27 (0, 0))) := ⟨h1_⟩
                      have n2_ : Aside0 (w20.heap[gb287]? = some (.cells #[.bool a3_0, .int .i64 a3_1, .int .i64 a3_2] 27 (0, 0))) := ⟨h2_⟩
                      have n3_ : Aside0 (w20.heap[gb300]? = some (.cells #[.bool false, .int .i64 0, .int .i64 0] 23 (0, 0))) := ⟨h3_⟩
                      have n4_ : Aside0 (w.heap.size ≤ gb300) := ⟨h4_⟩
                      have n5_ : Aside0 (w.heap.size ≤ gb300) := ⟨h5_⟩
                      have n6_ : Aside0 (gb285 ≠ gb300) := ⟨h6_⟩
                      have n7_ : Aside0 (gb300 ≠ gb285) := ⟨h7_⟩
                      have n8_ : Aside0 (gb286 ≠ gb300) := ⟨h8_⟩
                      have n9_ : Aside0 (gb300 ≠ gb286) := ⟨h9_⟩
                      have n10_ : Aside0 (gb287 ≠ gb300) := ⟨h10_⟩
                      have n11_ : Aside0 (gb300 ≠ gb287) := ⟨h11_⟩
                      have n12_ : Aside0 (Below w.heap.size w w20) := ⟨h12_⟩
                      clear BK285
                      clear BK286
                      clear BK287
                      clear HB
                      clear h0_ h1_ h2_ h3_ h4_ h5_ h6_ h7_ h8_ h9_ h10_ h11_ h12_
                      have BK285 := n0_
                      have BK286 := n1_
                      have BK287 := n2_
                      have BK300 := n3_
                      have GW300 := n4_
                      have GE300 := n5_
                      have NB285_300 := n6_
                      have NB300_285 := n7_
                      have NB286_300 := n8_
                      have NB300_286 := n9_
                      have NB287_300 := n10_
                      have NB300_287 := n11_
                      have HB := n12_
                      clear n0_ n1_ n2_ n3_ n4_ n5_ n6_ n7_ n8_ n9_ n10_ n11_ n12_
                      have hHeld : w20.cell? ⟨gb285, 0, none⟩ = some (.bool a1_0) ∧ w20.cell? ⟨gb285, 1, none⟩ = some (.int .i64 a1_1) ∧ w20.cell? ⟨gb285, 2, none⟩ = some (.int .i64 a1_2) ∧ w20.cell? ⟨gb286, 0, none⟩ = some (.bool a2_0) ∧ w20.cell? ⟨gb286, 1, none⟩ = some (.int .i64 a2_1) ∧ w20.cell? ⟨gb286, 2, none⟩ = some (.int .i64 a2_2) ∧ w20.cell? ⟨gb287, 0, none⟩ = some (.bool a3_0) ∧ w20.cell? ⟨gb287, 1, none⟩ = some (.int .i64 a3_1) ∧ w20.cell? ⟨gb287, 2, none⟩ = some (.int .i64 a3_2) := hS_
                      refine norm_ (a' := ?_) ?_ ?_
                      rotate_left
                      · simp only [putAll, Act.put, List.setIfInBounds_toArray, List.set_cons_zero, List.set_cons_succ]
                        rfl
                      refine one_ (i := 2) (N := some 13) #[true, true, true, true, false, true, false, false, true, false] rfl rfl (one_of HT_.out (by kernel_rfl)) (by decide) (fun K hK => ?_)
                      refine goes_ Try.func19 (by kernel_rfl) rfl #[.agg #[.bool a1_0, .int .i64 a1_1, .int .i64 a1_2]] (by rfl) rfl rfl (by (try simp only [List.map_toArray, List.map_cons, List.map_nil]); first | done | rfl | (simp only [List.length_drop, List.length_take]; rfl)) ?_
                      with_reducible refine (laws_toSpan.calls a1_0 a1_1 a1_2 t288 t289 t290 _ A5.out).mono ?_
                      rintro e w21 ⟨rfl, hb⟩
                      refine ⟨_, rfl, ?_⟩
                      have n0_ := Aside0.mk (blk_below (g := gb285) (o := .cells #[.bool a1_0, .int .i64 a1_1, .int .i64 a1_2] 27 (0, 0)) (by (with_reducible repeat (first | refine blk_drewN ?_ _ | refine blk_drew ?_ | refine blk_alloc ?_ _)); exact BK285.out) hb)
                      have n1_ := Aside0.mk (blk_below (g := gb286) (o := .cells #[.bool a2_0, .int .i64 a2_1, .int .i64 a2_2] 27 (0, 0)) (by (with_reducible repeat (first | refine blk_drewN ?_ _ | refine blk_drew ?_ | refine blk_alloc ?_ _)); exact BK286.out) hb)
                      have n2_ := Aside0.mk (blk_below (g := gb287) (o := .cells #[.bool a3_0, .int .i64 a3_1, .int .i64 a3_2] 27 (0, 0)) (by (with_reducible repeat (first | refine blk_drewN ?_ _ | refine blk_drew ?_ | refine blk_alloc ?_ _)); exact BK287.out) hb)
                      have n3_ := Aside0.mk (blk_below (g := gb300) (o := .cells #[.bool false, .int .i64 0, .int .i64 0] 23 (0, 0)) (by (with_reducible repeat (first | refine blk_drewN ?_ _ | refine blk_drew ?_ | refine blk_alloc ?_ _)); exact BK300.out) hb)
                      have n4_ := Aside0.mk (below_step (by repeat (first | (with_reducible first | exact HB.out | apply below_alloc | apply pw_below_drewN | apply below_drew1 | refine below_set ?_ GE285.out | refine below_set ?_ GE286.out | refine below_set ?_ GE287.out | refine below_set ?_ GE300.out) | exact HB.out)) hb)
                      clear BK285
                      clear BK286
                      clear BK287
                      clear BK300
                      clear HB
                      have BK285 := n0_
                      have BK286 := n1_
                      have BK287 := n2_
                      have BK300 := n3_
                      have HB := n4_
                      clear n0_ n1_ n2_ n3_ n4_
                      (try clear hb)
                      (try clear hb2)
                      (try clear hk)
                      (try clear hi)
                      refine hK.out _ _ ⟨(blk_cell BK285.out 0).trans rfl, (blk_cell BK285.out 1).trans rfl, (blk_cell BK285.out 2).trans rfl, (blk_cell BK286.out 0).trans rfl, (blk_cell BK286.out 1).trans rfl, (blk_cell BK286.out 2).trans rfl, (blk_cell BK287.out 0).trans rfl, (blk_cell BK287.out 1).trans rfl, (blk_cell BK287.out 2).trans rfl⟩ (fun hHeld => ?_)
                      clear hK K
                      refine norm_ (a' := ?_) ?_ ?_
                      rotate_left
                      · show Act.put _ (some 13) _ = _
                        simp only [Act.put, List.setIfInBounds_toArray, List.set_cons_zero, List.set_cons_succ, i64_w, i32_w]
                        rfl
                      exact norm_ (by first | (simp only [putAll, Act.put, List.setIfInBounds_toArray, List.set_cons_zero, List.set_cons_succ]; done) | (simp only [putAll, Act.put, List.setIfInBounds_toArray, List.set_cons_zero, List.set_cons_succ]; rfl)) (hJ2_8 (gb300) _ ⟨hHeld, (by (with_reducible repeat (first | refine blk_drewN ?_ _ | refine blk_drew ?_ | refine blk_alloc ?_ _)); exact BK285.out), (by (with_reducible repeat (first | refine blk_drewN ?_ _ | refine blk_drew ?_ | refine blk_alloc ?_ _)); exact BK286.out), (by (with_reducible repeat (first | refine blk_drewN ?_ _ | refine blk_drew ?_ | refine blk_alloc ?_ _)); exact BK287.out), (by (with_reducible repeat (first | refine blk_drewN ?_ _ | refine blk_drew ?_ | refine blk_alloc ?_ _)); exact BK300.out), GW300.out, GE300.out, NB285_300.out, NB300_285.out, NB286_300.out, NB300_286.out, NB287_300.out, NB300_287.out, (by repeat (first | (with_reducible first | exact HB.out | apply below_alloc | apply pw_below_drewN | apply below_drew1 | refine below_set ?_ GE285.out | refine below_set ?_ GE286.out | refine below_set ?_ GE287.out | refine below_set ?_ GE300.out) | exact HB.out))⟩)
                  · skip
                    rintro _ w20 ⟨hS_, h0_, h1_, h2_, h3_⟩
                    have n0_ : Aside0 (w20.heap[gb285]? = some (.cells #[.bool a1_0, .int .i64 a1_1, .int .i64 a1_2] 27 (0, 0))) := ⟨h0_⟩
                    have n1_ : Aside0 (w20.heap[gb286]? = some (.cells #[.bool a2_0, .int .i64 a2_1, .int .i64 a2_2] 27 (0, 0))) := ⟨h1_⟩
                    have n2_ : Aside0 (w20.heap[gb287]? = some (.cells #[.bool a3_0, .int .i64 a3_1, .int .i64 a3_2] 27 (0, 0))) := ⟨h2_⟩
                    have n3_ : Aside0 (Below w.heap.size w w20) := ⟨h3_⟩
                    clear BK285
                    clear BK286
                    clear BK287
                    clear HB
                    clear h0_ h1_ h2_ h3_
                    have BK285 := n0_
                    have BK286 := n1_
                    have BK287 := n2_
                    have HB := n3_
                    clear n0_ n1_ n2_ n3_
                    have hHeld : w20.cell? ⟨gb285, 0, none⟩ = some (.bool a1_0) ∧ w20.cell? ⟨gb285, 1, none⟩ = some (.int .i64 a1_1) ∧ w20.cell? ⟨gb285, 2, none⟩ = some (.int .i64 a1_2) ∧ w20.cell? ⟨gb286, 0, none⟩ = some (.bool a2_0) ∧ w20.cell? ⟨gb286, 1, none⟩ = some (.int .i64 a2_1) ∧ w20.cell? ⟨gb286, 2, none⟩ = some (.int .i64 a2_2) ∧ w20.cell? ⟨gb287, 0, none⟩ = some (.bool a3_0) ∧ w20.cell? ⟨gb287, 1, none⟩ = some (.int .i64 a3_1) ∧ w20.cell? ⟨gb287, 2, none⟩ = some (.int .i64 a3_2) := hS_
                    refine norm_ (a' := ?_) ?_ ?_
                    rotate_left
                    · simp only [putAll, Act.put, List.setIfInBounds_toArray, List.set_cons_zero, List.set_cons_succ]
                      rfl
                    refine two_ (i := 4) (j := 8) (Ni := some 15) (Nj := some 9) #[true, true, true, true, true, true, false, false, false, false] #[true, true, true, true, false, true, false, false, true, false] rfl rfl rfl rfl (two_of HT_.out (by kernel_rfl)) (by decide) (by decide) (fun K hK => ?_) (fun K hK => ?_)
                    · skip
                      refine goes_ Try.func19 (by kernel_rfl) rfl #[.agg #[.bool a2_0, .int .i64 a2_1, .int .i64 a2_2]] (by rfl) rfl rfl (by (try simp only [List.map_toArray, List.map_cons, List.map_nil]); first | done | rfl | (simp only [List.length_drop, List.length_take]; rfl)) ?_
                      with_reducible refine (laws_toSpan.calls a2_0 a2_1 a2_2 t291 t292 t293 _ A6.out).mono ?_
                      rintro e w21 ⟨rfl, hb⟩
                      refine ⟨_, rfl, ?_⟩
                      have n0_ := Aside0.mk (blk_below (g := gb285) (o := .cells #[.bool a1_0, .int .i64 a1_1, .int .i64 a1_2] 27 (0, 0)) (by (with_reducible repeat (first | refine blk_drewN ?_ _ | refine blk_drew ?_ | refine blk_alloc ?_ _)); exact BK285.out) hb)
                      have n1_ := Aside0.mk (blk_below (g := gb286) (o := .cells #[.bool a2_0, .int .i64 a2_1, .int .i64 a2_2] 27 (0, 0)) (by (with_reducible repeat (first | refine blk_drewN ?_ _ | refine blk_drew ?_ | refine blk_alloc ?_ _)); exact BK286.out) hb)
                      have n2_ := Aside0.mk (blk_below (g := gb287) (o := .cells #[.bool a3_0, .int .i64 a3_1, .int .i64 a3_2] 27 (0, 0)) (by (with_reducible repeat (first | refine blk_drewN ?_ _ | refine blk_drew ?_ | refine blk_alloc ?_ _)); exact BK287.out) hb)
                      have n3_ := Aside0.mk (below_step (by repeat (first | (with_reducible first | exact HB.out | apply below_alloc | apply pw_below_drewN | apply below_drew1 | refine below_set ?_ GE285.out | refine below_set ?_ GE286.out | refine below_set ?_ GE287.out) | exact HB.out)) hb)
                      clear BK285
                      clear BK286
                      clear BK287
                      clear HB
                      have BK285 := n0_
                      have BK286 := n1_
                      have BK287 := n2_
                      have HB := n3_
                      clear n0_ n1_ n2_ n3_
                      (try clear hb)
                      (try clear hb2)
                      (try clear hk)
                      (try clear hi)
                      refine hK.out _ _ ⟨(blk_cell BK285.out 0).trans rfl, (blk_cell BK285.out 1).trans rfl, (blk_cell BK285.out 2).trans rfl, (blk_cell BK286.out 0).trans rfl, (blk_cell BK286.out 1).trans rfl, (blk_cell BK286.out 2).trans rfl, (blk_cell BK287.out 0).trans rfl, (blk_cell BK287.out 1).trans rfl, (blk_cell BK287.out 2).trans rfl⟩ (fun hHeld => ?_)
                      clear hK K
                      refine norm_ (a' := ?_) ?_ ?_
                      rotate_left
                      · show Act.put _ (some 15) _ = _
                        simp only [Act.put, List.setIfInBounds_toArray, List.set_cons_zero, List.set_cons_succ, i64_w, i32_w]
                        rfl
                      exact norm_ (by first | (simp only [putAll, Act.put, List.setIfInBounds_toArray, List.set_cons_zero, List.set_cons_succ]; done) | (simp only [putAll, Act.put, List.setIfInBounds_toArray, List.set_cons_zero, List.set_cons_succ]; rfl)) (hJ2_4 () _ ⟨hHeld, (by (with_reducible repeat (first | refine blk_drewN ?_ _ | refine blk_drew ?_ | refine blk_alloc ?_ _)); exact BK285.out), (by (with_reducible repeat (first | refine blk_drewN ?_ _ | refine blk_drew ?_ | refine blk_alloc ?_ _)); exact BK286.out), (by (with_reducible repeat (first | refine blk_drewN ?_ _ | refine blk_drew ?_ | refine blk_alloc ?_ _)); exact BK287.out), (by repeat (first | (with_reducible first | exact HB.out | apply below_alloc | apply pw_below_drewN | apply below_drew1 | refine below_set ?_ GE285.out | refine below_set ?_ GE286.out | refine below_set ?_ GE287.out) | exact HB.out))⟩)
                    · skip
                      refine box_step ?hg (N := 9) ?hd (cs := #[.bool false, .int .i64 0, .int .i64 0]) (t := 23) ?hr ?_; (case hd => rfl); (case hg => rfl); (case hr => first | (go_simp; done) | (go_simp; rfl))
                      intro gb300 hg w21 hbox hb
                      have n0_ := Aside0.mk (blk_below (g := gb285) (o := .cells #[.bool a1_0, .int .i64 a1_1, .int .i64 a1_2] 27 (0, 0)) (by (with_reducible repeat (first | refine blk_drewN ?_ _ | refine blk_drew ?_ | refine blk_alloc ?_ _)); exact BK285.out) hb)
                      have n1_ := Aside0.mk (blk_below (g := gb286) (o := .cells #[.bool a2_0, .int .i64 a2_1, .int .i64 a2_2] 27 (0, 0)) (by (with_reducible repeat (first | refine blk_drewN ?_ _ | refine blk_drew ?_ | refine blk_alloc ?_ _)); exact BK286.out) hb)
                      have n2_ := Aside0.mk (blk_below (g := gb287) (o := .cells #[.bool a3_0, .int .i64 a3_1, .int .i64 a3_2] 27 (0, 0)) (by (with_reducible repeat (first | refine blk_drewN ?_ _ | refine blk_drew ?_ | refine blk_alloc ?_ _)); exact BK287.out) hb)
                      have n3_ := Aside0.mk (below_step (by repeat (first | (with_reducible first | exact HB.out | apply below_alloc | apply pw_below_drewN | apply below_drew1 | refine below_set ?_ GE285.out | refine below_set ?_ GE286.out | refine below_set ?_ GE287.out) | exact HB.out)) hb)
                      have n4_ := Aside0.mk (hbox)
                      have n5_ := Aside0.mk ((by rw [hg]; exact (below_size (by repeat (first | (with_reducible first | exact HB.out | apply below_alloc | apply pw_below_drewN | apply below_drew1 | refine below_set ?_ GE285.out | refine below_set ?_ GE286.out | refine below_set ?_ GE287.out) | exact HB.out))) : w.heap.size ≤ gb300))
                      have n6_ := Aside0.mk ((by rw [hg]; exact (below_size (by repeat (first | (with_reducible first | exact HB.out | apply below_alloc | apply pw_below_drewN | apply below_drew1 | refine below_set ?_ GE285.out | refine below_set ?_ GE286.out | refine below_set ?_ GE287.out) | exact HB.out))) : w.heap.size ≤ gb300))
                      have n7_ := Aside0.mk ((by rw [hg]; exact Nat.ne_of_lt (blk_lt (g := gb285) (o := .cells #[.bool a1_0, .int .i64 a1_1, .int .i64 a1_2] 27 (0, 0)) (by (with_reducible repeat (first | refine blk_drewN ?_ _ | refine blk_drew ?_ | refine blk_alloc ?_ _)); exact BK285.out)) : gb285 ≠ gb300))
                      have n8_ := Aside0.mk ((by rw [hg]; exact Nat.ne_of_gt (blk_lt (g := gb285) (o := .cells #[.bool a1_0, .int .i64 a1_1, .int .i64 a1_2] 27 (0, 0)) (by (with_reducible repeat (first | refine blk_drewN ?_ _ | refine blk_drew ?_ | refine blk_alloc ?_ _)); exact BK285.out)) : gb300 ≠ gb285))
                      have n9_ := Aside0.mk ((by rw [hg]; exact Nat.ne_of_lt (blk_lt (g := gb286) (o := .cells #[.bool a2_0, .int .i64 a2_1, .int .i64 a2_2] 27 (0, 0)) (by (with_reducible repeat (first | refine blk_drewN ?_ _ | refine blk_drew ?_ | refine blk_alloc ?_ _)); exact BK286.out)) : gb286 ≠ gb300))
                      have n10_ := Aside0.mk ((by rw [hg]; exact Nat.ne_of_gt (blk_lt (g := gb286) (o := .cells #[.bool a2_0, .int .i64 a2_1, .int .i64 a2_2] 27 (0, 0)) (by (with_reducible repeat (first | refine blk_drewN ?_ _ | refine blk_drew ?_ | refine blk_alloc ?_ _)); exact BK286.out)) : gb300 ≠ gb286))
                      have n11_ := Aside0.mk ((by rw [hg]; exact Nat.ne_of_lt (blk_lt (g := gb287) (o := .cells #[.bool a3_0, .int .i64 a3_1, .int .i64 a3_2] 27 (0, 0)) (by (with_reducible repeat (first | refine blk_drewN ?_ _ | refine blk_drew ?_ | refine blk_alloc ?_ _)); exact BK287.out)) : gb287 ≠ gb300))
                      have n12_ := Aside0.mk ((by rw [hg]; exact Nat.ne_of_gt (blk_lt (g := gb287) (o := .cells #[.bool a3_0, .int .i64 a3_1, .int .i64 a3_2] 27 (0, 0)) (by (with_reducible repeat (first | refine blk_drewN ?_ _ | refine blk_drew ?_ | refine blk_alloc ?_ _)); exact BK287.out)) : gb300 ≠ gb287))
                      clear BK285
                      clear BK286
                      clear BK287
                      clear HB
                      have BK285 := n0_
                      have BK286 := n1_
                      have BK287 := n2_
                      have HB := n3_
                      have BK300 := n4_
                      have GW300 := n5_
                      have GE300 := n6_
                      have NB285_300 := n7_
                      have NB300_285 := n8_
                      have NB286_300 := n9_
                      have NB300_286 := n10_
                      have NB287_300 := n11_
                      have NB300_287 := n12_
                      clear n0_ n1_ n2_ n3_ n4_ n5_ n6_ n7_ n8_ n9_ n10_ n11_ n12_
                      clear hb hbox hg
                      refine hK.out _ _ ⟨(blk_cell BK285.out 0).trans rfl, (blk_cell BK285.out 1).trans rfl, (blk_cell BK285.out 2).trans rfl, (blk_cell BK286.out 0).trans rfl, (blk_cell BK286.out 1).trans rfl, (blk_cell BK286.out 2).trans rfl, (blk_cell BK287.out 0).trans rfl, (blk_cell BK287.out 1).trans rfl, (blk_cell BK287.out 2).trans rfl⟩ (fun hHeld => ?_)
                      clear hK K
                      refine norm_ (a' := ?_) ?_ ?_
                      rotate_left
                      · show Act.put _ (some 9) _ = _
                        simp only [Act.put, List.setIfInBounds_toArray, List.set_cons_zero, List.set_cons_succ, i64_w, i32_w]
                        rfl
                      exact norm_ (by first | (simp only [putAll, Act.put, List.setIfInBounds_toArray, List.set_cons_zero, List.set_cons_succ]; done) | (simp only [putAll, Act.put, List.setIfInBounds_toArray, List.set_cons_zero, List.set_cons_succ]; rfl)) (hJ2_8 (gb300) _ ⟨hHeld, (by (with_reducible repeat (first | refine blk_drewN ?_ _ | refine blk_drew ?_ | refine blk_alloc ?_ _)); exact BK285.out), (by (with_reducible repeat (first | refine blk_drewN ?_ _ | refine blk_drew ?_ | refine blk_alloc ?_ _)); exact BK286.out), (by (with_reducible repeat (first | refine blk_drewN ?_ _ | refine blk_drew ?_ | refine blk_alloc ?_ _)); exact BK287.out), (by (with_reducible repeat (first | refine blk_drewN ?_ _ | refine blk_drew ?_ | refine blk_alloc ?_ _)); exact BK300.out), GW300.out, GE300.out, NB285_300.out, NB300_285.out, NB286_300.out, NB300_286.out, NB287_300.out, NB300_287.out, (by repeat (first | (with_reducible first | exact HB.out | apply below_alloc | apply pw_below_drewN | apply below_drew1 | refine below_set ?_ GE285.out | refine below_set ?_ GE286.out | refine below_set ?_ GE287.out | refine below_set ?_ GE300.out) | exact HB.out))⟩)
                · skip
                  rintro gb300 w21 ⟨hS_, h0_, h1_, h2_, h3_, h4_, h5_, h6_, h7_, h8_, h9_, h10_, h11_, h12_⟩
                  have n0_ : Aside0 (w21.heap[gb285]? = some (.cells #[.bool a1_0, .int .i64 a1_1, .int .i64 a1_2] 27 (0, 0))) := ⟨h0_⟩
                  have n1_ : Aside0 (w21.heap[gb286]? = some (.cells #[.bool a2_0, .int .i64 a2_1, .int .i64 a2_2] 27 (0, 0))) := ⟨h1_⟩
                  have n2_ : Aside0 (w21.heap[gb287]? = some (.cells #[.bool a3_0, .int .i64 a3_1, .int .i64 a3_2] 27 (0, 0))) := ⟨h2_⟩
                  have n3_ : Aside0 (w21.heap[gb300]? = some (.cells #[.bool false, .int .i64 0, .int .i64 0] 23 (0, 0))) := ⟨h3_⟩
                  have n4_ : Aside0 (w.heap.size ≤ gb300) := ⟨h4_⟩
                  have n5_ : Aside0 (w.heap.size ≤ gb300) := ⟨h5_⟩
                  have n6_ : Aside0 (gb285 ≠ gb300) := ⟨h6_⟩
                  have n7_ : Aside0 (gb300 ≠ gb285) := ⟨h7_⟩
                  have n8_ : Aside0 (gb286 ≠ gb300) := ⟨h8_⟩
                  have n9_ : Aside0 (gb300 ≠ gb286) := ⟨h9_⟩
                  have n10_ : Aside0 (gb287 ≠ gb300) := ⟨h10_⟩
                  have n11_ : Aside0 (gb300 ≠ gb287) := ⟨h11_⟩
                  have n12_ : Aside0 (Below w.heap.size w w21) := ⟨h12_⟩
                  clear BK285
                  clear BK286
                  clear BK287
                  clear HB
                  clear h0_ h1_ h2_ h3_ h4_ h5_ h6_ h7_ h8_ h9_ h10_ h11_ h12_
                  have BK285 := n0_
                  have BK286 := n1_
                  have BK287 := n2_
                  have BK300 := n3_
                  have GW300 := n4_
                  have GE300 := n5_
                  have NB285_300 := n6_
                  have NB300_285 := n7_
                  have NB286_300 := n8_
                  have NB300_286 := n9_
                  have NB287_300 := n10_
                  have NB300_287 := n11_
                  have HB := n12_
                  clear n0_ n1_ n2_ n3_ n4_ n5_ n6_ n7_ n8_ n9_ n10_ n11_ n12_
                  have hHeld : w21.cell? ⟨gb285, 0, none⟩ = some (.bool a1_0) ∧ w21.cell? ⟨gb285, 1, none⟩ = some (.int .i64 a1_1) ∧ w21.cell? ⟨gb285, 2, none⟩ = some (.int .i64 a1_2) ∧ w21.cell? ⟨gb286, 0, none⟩ = some (.bool a2_0) ∧ w21.cell? ⟨gb286, 1, none⟩ = some (.int .i64 a2_1) ∧ w21.cell? ⟨gb286, 2, none⟩ = some (.int .i64 a2_2) ∧ w21.cell? ⟨gb287, 0, none⟩ = some (.bool a3_0) ∧ w21.cell? ⟨gb287, 1, none⟩ = some (.int .i64 a3_1) ∧ w21.cell? ⟨gb287, 2, none⟩ = some (.int .i64 a3_2) := hS_
                  refine norm_ (a' := ?_) ?_ ?_
                  rotate_left
                  · simp only [putAll, Act.put, List.setIfInBounds_toArray, List.set_cons_zero, List.set_cons_succ]
                    rfl
                  refine one_ (i := 4) (N := some 15) #[true, true, true, true, true, true, false, false, true, false] rfl rfl (one_of HT_.out (by kernel_rfl)) (by decide) (fun K hK => ?_)
                  refine goes_ Try.func19 (by kernel_rfl) rfl #[.agg #[.bool a2_0, .int .i64 a2_1, .int .i64 a2_2]] (by rfl) rfl rfl (by (try simp only [List.map_toArray, List.map_cons, List.map_nil]); first | done | rfl | (simp only [List.length_drop, List.length_take]; rfl)) ?_
                  with_reducible refine (laws_toSpan.calls a2_0 a2_1 a2_2 t291 t292 t293 _ A6.out).mono ?_
                  rintro e w22 ⟨rfl, hb⟩
                  refine ⟨_, rfl, ?_⟩
                  have n0_ := Aside0.mk (blk_below (g := gb285) (o := .cells #[.bool a1_0, .int .i64 a1_1, .int .i64 a1_2] 27 (0, 0)) (by (with_reducible repeat (first | refine blk_drewN ?_ _ | refine blk_drew ?_ | refine blk_alloc ?_ _)); exact BK285.out) hb)
                  have n1_ := Aside0.mk (blk_below (g := gb286) (o := .cells #[.bool a2_0, .int .i64 a2_1, .int .i64 a2_2] 27 (0, 0)) (by (with_reducible repeat (first | refine blk_drewN ?_ _ | refine blk_drew ?_ | refine blk_alloc ?_ _)); exact BK286.out) hb)
                  have n2_ := Aside0.mk (blk_below (g := gb287) (o := .cells #[.bool a3_0, .int .i64 a3_1, .int .i64 a3_2] 27 (0, 0)) (by (with_reducible repeat (first | refine blk_drewN ?_ _ | refine blk_drew ?_ | refine blk_alloc ?_ _)); exact BK287.out) hb)
                  have n3_ := Aside0.mk (blk_below (g := gb300) (o := .cells #[.bool false, .int .i64 0, .int .i64 0] 23 (0, 0)) (by (with_reducible repeat (first | refine blk_drewN ?_ _ | refine blk_drew ?_ | refine blk_alloc ?_ _)); exact BK300.out) hb)
                  have n4_ := Aside0.mk (below_step (by repeat (first | (with_reducible first | exact HB.out | apply below_alloc | apply pw_below_drewN | apply below_drew1 | refine below_set ?_ GE285.out | refine below_set ?_ GE286.out | refine below_set ?_ GE287.out | refine below_set ?_ GE300.out) | exact HB.out)) hb)
                  clear BK285
                  clear BK286
                  clear BK287
                  clear BK300
                  clear HB
                  have BK285 := n0_
                  have BK286 := n1_
                  have BK287 := n2_
                  have BK300 := n3_
                  have HB := n4_
                  clear n0_ n1_ n2_ n3_ n4_
                  (try clear hb)
                  (try clear hb2)
                  (try clear hk)
                  (try clear hi)
                  refine hK.out _ _ ⟨(blk_cell BK285.out 0).trans rfl, (blk_cell BK285.out 1).trans rfl, (blk_cell BK285.out 2).trans rfl, (blk_cell BK286.out 0).trans rfl, (blk_cell BK286.out 1).trans rfl, (blk_cell BK286.out 2).trans rfl, (blk_cell BK287.out 0).trans rfl, (blk_cell BK287.out 1).trans rfl, (blk_cell BK287.out 2).trans rfl⟩ (fun hHeld => ?_)
                  clear hK K
                  refine norm_ (a' := ?_) ?_ ?_
                  rotate_left
                  · show Act.put _ (some 15) _ = _
                    simp only [Act.put, List.setIfInBounds_toArray, List.set_cons_zero, List.set_cons_succ, i64_w, i32_w]
                    rfl
                  exact norm_ (by first | (simp only [putAll, Act.put, List.setIfInBounds_toArray, List.set_cons_zero, List.set_cons_succ]; done) | (simp only [putAll, Act.put, List.setIfInBounds_toArray, List.set_cons_zero, List.set_cons_succ]; rfl)) (hJ2_4_8 (gb300) _ ⟨hHeld, (by (with_reducible repeat (first | refine blk_drewN ?_ _ | refine blk_drew ?_ | refine blk_alloc ?_ _)); exact BK285.out), (by (with_reducible repeat (first | refine blk_drewN ?_ _ | refine blk_drew ?_ | refine blk_alloc ?_ _)); exact BK286.out), (by (with_reducible repeat (first | refine blk_drewN ?_ _ | refine blk_drew ?_ | refine blk_alloc ?_ _)); exact BK287.out), (by (with_reducible repeat (first | refine blk_drewN ?_ _ | refine blk_drew ?_ | refine blk_alloc ?_ _)); exact BK300.out), GW300.out, GE300.out, NB285_300.out, NB300_285.out, NB286_300.out, NB300_286.out, NB287_300.out, NB300_287.out, (by repeat (first | (with_reducible first | exact HB.out | apply below_alloc | apply pw_below_drewN | apply below_drew1 | refine below_set ?_ GE285.out | refine below_set ?_ GE286.out | refine below_set ?_ GE287.out | refine below_set ?_ GE300.out) | exact HB.out))⟩)
              · skip
                rintro _ w21 ⟨hS_, h0_, h1_, h2_, h3_⟩
                have n0_ : Aside0 (w21.heap[gb285]? = some (.cells #[.bool a1_0, .int .i64 a1_1, .int .i64 a1_2] 27 (0, 0))) := ⟨h0_⟩
                have n1_ : Aside0 (w21.heap[gb286]? = some (.cells #[.bool a2_0, .int .i64 a2_1, .int .i64 a2_2] 27 (0, 0))) := ⟨h1_⟩
                have n2_ : Aside0 (w21.heap[gb287]? = some (.cells #[.bool a3_0, .int .i64 a3_1, .int .i64 a3_2] 27 (0, 0))) := ⟨h2_⟩
                have n3_ : Aside0 (Below w.heap.size w w21) := ⟨h3_⟩
                clear BK285
                clear BK286
                clear BK287
                clear HB
                clear h0_ h1_ h2_ h3_
                have BK285 := n0_
                have BK286 := n1_
                have BK287 := n2_
                have HB := n3_
                clear n0_ n1_ n2_ n3_
                have hHeld : w21.cell? ⟨gb285, 0, none⟩ = some (.bool a1_0) ∧ w21.cell? ⟨gb285, 1, none⟩ = some (.int .i64 a1_1) ∧ w21.cell? ⟨gb285, 2, none⟩ = some (.int .i64 a1_2) ∧ w21.cell? ⟨gb286, 0, none⟩ = some (.bool a2_0) ∧ w21.cell? ⟨gb286, 1, none⟩ = some (.int .i64 a2_1) ∧ w21.cell? ⟨gb286, 2, none⟩ = some (.int .i64 a2_2) ∧ w21.cell? ⟨gb287, 0, none⟩ = some (.bool a3_0) ∧ w21.cell? ⟨gb287, 1, none⟩ = some (.int .i64 a3_1) ∧ w21.cell? ⟨gb287, 2, none⟩ = some (.int .i64 a3_2) := hS_
                refine norm_ (a' := ?_) ?_ ?_
                rotate_left
                · simp only [putAll, Act.put, List.setIfInBounds_toArray, List.set_cons_zero, List.set_cons_succ]
                  rfl
                refine two_ (i := 6) (j := 8) (Ni := some 17) (Nj := some 9) #[true, true, true, true, true, true, true, false, false, false] #[true, true, true, true, true, true, false, false, true, false] rfl rfl rfl rfl (two_of HT_.out (by kernel_rfl)) (by decide) (by decide) (fun K hK => ?_) (fun K hK => ?_)
                · skip
                  refine goes_ Try.func19 (by kernel_rfl) rfl #[.agg #[.bool a3_0, .int .i64 a3_1, .int .i64 a3_2]] (by rfl) rfl rfl (by (try simp only [List.map_toArray, List.map_cons, List.map_nil]); first | done | rfl | (simp only [List.length_drop, List.length_take]; rfl)) ?_
                  with_reducible refine (laws_toSpan.calls a3_0 a3_1 a3_2 t294 t295 t296 _ A7.out).mono ?_
                  rintro e w22 ⟨rfl, hb⟩
                  refine ⟨_, rfl, ?_⟩
                  have n0_ := Aside0.mk (blk_below (g := gb285) (o := .cells #[.bool a1_0, .int .i64 a1_1, .int .i64 a1_2] 27 (0, 0)) (by (with_reducible repeat (first | refine blk_drewN ?_ _ | refine blk_drew ?_ | refine blk_alloc ?_ _)); exact BK285.out) hb)
                  have n1_ := Aside0.mk (blk_below (g := gb286) (o := .cells #[.bool a2_0, .int .i64 a2_1, .int .i64 a2_2] 27 (0, 0)) (by (with_reducible repeat (first | refine blk_drewN ?_ _ | refine blk_drew ?_ | refine blk_alloc ?_ _)); exact BK286.out) hb)
                  have n2_ := Aside0.mk (blk_below (g := gb287) (o := .cells #[.bool a3_0, .int .i64 a3_1, .int .i64 a3_2] 27 (0, 0)) (by (with_reducible repeat (first | refine blk_drewN ?_ _ | refine blk_drew ?_ | refine blk_alloc ?_ _)); exact BK287.out) hb)
                  have n3_ := Aside0.mk (below_step (by repeat (first | (with_reducible first | exact HB.out | apply below_alloc | apply pw_below_drewN | apply below_drew1 | refine below_set ?_ GE285.out | refine below_set ?_ GE286.out | refine below_set ?_ GE287.out) | exact HB.out)) hb)
                  clear BK285
                  clear BK286
                  clear BK287
                  clear HB
                  have BK285 := n0_
                  have BK286 := n1_
                  have BK287 := n2_
                  have HB := n3_
                  clear n0_ n1_ n2_ n3_
                  (try clear hb)
                  (try clear hb2)
                  (try clear hk)
                  (try clear hi)
                  refine hK.out _ _ ⟨(blk_cell BK285.out 0).trans rfl, (blk_cell BK285.out 1).trans rfl, (blk_cell BK285.out 2).trans rfl, (blk_cell BK286.out 0).trans rfl, (blk_cell BK286.out 1).trans rfl, (blk_cell BK286.out 2).trans rfl, (blk_cell BK287.out 0).trans rfl, (blk_cell BK287.out 1).trans rfl, (blk_cell BK287.out 2).trans rfl⟩ (fun hHeld => ?_)
                  clear hK K
                  refine norm_ (a' := ?_) ?_ ?_
                  rotate_left
                  · show Act.put _ (some 17) _ = _
                    simp only [Act.put, List.setIfInBounds_toArray, List.set_cons_zero, List.set_cons_succ, i64_w, i32_w]
                    rfl
                  exact norm_ (by first | (simp only [putAll, Act.put, List.setIfInBounds_toArray, List.set_cons_zero, List.set_cons_succ]; done) | (simp only [putAll, Act.put, List.setIfInBounds_toArray, List.set_cons_zero, List.set_cons_succ]; rfl)) (hJ2_4_6 () _ ⟨hHeld, (by (with_reducible repeat (first | refine blk_drewN ?_ _ | refine blk_drew ?_ | refine blk_alloc ?_ _)); exact BK285.out), (by (with_reducible repeat (first | refine blk_drewN ?_ _ | refine blk_drew ?_ | refine blk_alloc ?_ _)); exact BK286.out), (by (with_reducible repeat (first | refine blk_drewN ?_ _ | refine blk_drew ?_ | refine blk_alloc ?_ _)); exact BK287.out), (by repeat (first | (with_reducible first | exact HB.out | apply below_alloc | apply pw_below_drewN | apply below_drew1 | refine below_set ?_ GE285.out | refine below_set ?_ GE286.out | refine below_set ?_ GE287.out) | exact HB.out))⟩)
                · skip
                  refine box_step ?hg (N := 9) ?hd (cs := #[.bool false, .int .i64 0, .int .i64 0]) (t := 23) ?hr ?_; (case hd => rfl); (case hg => rfl); (case hr => first | (go_simp; done) | (go_simp; rfl))
                  intro gb300 hg w22 hbox hb
                  have n0_ := Aside0.mk (blk_below (g := gb285) (o := .cells #[.bool a1_0, .int .i64 a1_1, .int .i64 a1_2] 27 (0, 0)) (by (with_reducible repeat (first | refine blk_drewN ?_ _ | refine blk_drew ?_ | refine blk_alloc ?_ _)); exact BK285.out) hb)
                  have n1_ := Aside0.mk (blk_below (g := gb286) (o := .cells #[.bool a2_0, .int .i64 a2_1, .int .i64 a2_2] 27 (0, 0)) (by (with_reducible repeat (first | refine blk_drewN ?_ _ | refine blk_drew ?_ | refine blk_alloc ?_ _)); exact BK286.out) hb)
                  have n2_ := Aside0.mk (blk_below (g := gb287) (o := .cells #[.bool a3_0, .int .i64 a3_1, .int .i64 a3_2] 27 (0, 0)) (by (with_reducible repeat (first | refine blk_drewN ?_ _ | refine blk_drew ?_ | refine blk_alloc ?_ _)); exact BK287.out) hb)
                  have n3_ := Aside0.mk (below_step (by repeat (first | (with_reducible first | exact HB.out | apply below_alloc | apply pw_below_drewN | apply below_drew1 | refine below_set ?_ GE285.out | refine below_set ?_ GE286.out | refine below_set ?_ GE287.out) | exact HB.out)) hb)
                  have n4_ := Aside0.mk (hbox)
                  have n5_ := Aside0.mk ((by rw [hg]; exact (below_size (by repeat (first | (with_reducible first | exact HB.out | apply below_alloc | apply pw_below_drewN | apply below_drew1 | refine below_set ?_ GE285.out | refine below_set ?_ GE286.out | refine below_set ?_ GE287.out) | exact HB.out))) : w.heap.size ≤ gb300))
                  have n6_ := Aside0.mk ((by rw [hg]; exact (below_size (by repeat (first | (with_reducible first | exact HB.out | apply below_alloc | apply pw_below_drewN | apply below_drew1 | refine below_set ?_ GE285.out | refine below_set ?_ GE286.out | refine below_set ?_ GE287.out) | exact HB.out))) : w.heap.size ≤ gb300))
                  have n7_ := Aside0.mk ((by rw [hg]; exact Nat.ne_of_lt (blk_lt (g := gb285) (o := .cells #[.bool a1_0, .int .i64 a1_1, .int .i64 a1_2] 27 (0, 0)) (by (with_reducible repeat (first | refine blk_drewN ?_ _ | refine blk_drew ?_ | refine blk_alloc ?_ _)); exact BK285.out)) : gb285 ≠ gb300))
                  have n8_ := Aside0.mk ((by rw [hg]; exact Nat.ne_of_gt (blk_lt (g := gb285) (o := .cells #[.bool a1_0, .int .i64 a1_1, .int .i64 a1_2] 27 (0, 0)) (by (with_reducible repeat (first | refine blk_drewN ?_ _ | refine blk_drew ?_ | refine blk_alloc ?_ _)); exact BK285.out)) : gb300 ≠ gb285))
                  have n9_ := Aside0.mk ((by rw [hg]; exact Nat.ne_of_lt (blk_lt (g := gb286) (o := .cells #[.bool a2_0, .int .i64 a2_1, .int .i64 a2_2] 27 (0, 0)) (by (with_reducible repeat (first | refine blk_drewN ?_ _ | refine blk_drew ?_ | refine blk_alloc ?_ _)); exact BK286.out)) : gb286 ≠ gb300))
                  have n10_ := Aside0.mk ((by rw [hg]; exact Nat.ne_of_gt (blk_lt (g := gb286) (o := .cells #[.bool a2_0, .int .i64 a2_1, .int .i64 a2_2] 27 (0, 0)) (by (with_reducible repeat (first | refine blk_drewN ?_ _ | refine blk_drew ?_ | refine blk_alloc ?_ _)); exact BK286.out)) : gb300 ≠ gb286))
                  have n11_ := Aside0.mk ((by rw [hg]; exact Nat.ne_of_lt (blk_lt (g := gb287) (o := .cells #[.bool a3_0, .int .i64 a3_1, .int .i64 a3_2] 27 (0, 0)) (by (with_reducible repeat (first | refine blk_drewN ?_ _ | refine blk_drew ?_ | refine blk_alloc ?_ _)); exact BK287.out)) : gb287 ≠ gb300))
                  have n12_ := Aside0.mk ((by rw [hg]; exact Nat.ne_of_gt (blk_lt (g := gb287) (o := .cells #[.bool a3_0, .int .i64 a3_1, .int .i64 a3_2] 27 (0, 0)) (by (with_reducible repeat (first | refine blk_drewN ?_ _ | refine blk_drew ?_ | refine blk_alloc ?_ _)); exact BK287.out)) : gb300 ≠ gb287))
                  clear BK285
                  clear BK286
                  clear BK287
                  clear HB
                  have BK285 := n0_
                  have BK286 := n1_
                  have BK287 := n2_
                  have HB := n3_
                  have BK300 := n4_
                  have GW300 := n5_
                  have GE300 := n6_
                  have NB285_300 := n7_
                  have NB300_285 := n8_
                  have NB286_300 := n9_
                  have NB300_286 := n10_
                  have NB287_300 := n11_
                  have NB300_287 := n12_
                  clear n0_ n1_ n2_ n3_ n4_ n5_ n6_ n7_ n8_ n9_ n10_ n11_ n12_
                  clear hb hbox hg
                  refine hK.out _ _ ⟨(blk_cell BK285.out 0).trans rfl, (blk_cell BK285.out 1).trans rfl, (blk_cell BK285.out 2).trans rfl, (blk_cell BK286.out 0).trans rfl, (blk_cell BK286.out 1).trans rfl, (blk_cell BK286.out 2).trans rfl, (blk_cell BK287.out 0).trans rfl, (blk_cell BK287.out 1).trans rfl, (blk_cell BK287.out 2).trans rfl⟩ (fun hHeld => ?_)
                  clear hK K
                  refine norm_ (a' := ?_) ?_ ?_
                  rotate_left
                  · show Act.put _ (some 9) _ = _
                    simp only [Act.put, List.setIfInBounds_toArray, List.set_cons_zero, List.set_cons_succ, i64_w, i32_w]
                    rfl
                  exact norm_ (by first | (simp only [putAll, Act.put, List.setIfInBounds_toArray, List.set_cons_zero, List.set_cons_succ]; done) | (simp only [putAll, Act.put, List.setIfInBounds_toArray, List.set_cons_zero, List.set_cons_succ]; rfl)) (hJ2_4_8 (gb300) _ ⟨hHeld, (by (with_reducible repeat (first | refine blk_drewN ?_ _ | refine blk_drew ?_ | refine blk_alloc ?_ _)); exact BK285.out), (by (with_reducible repeat (first | refine blk_drewN ?_ _ | refine blk_drew ?_ | refine blk_alloc ?_ _)); exact BK286.out), (by (with_reducible repeat (first | refine blk_drewN ?_ _ | refine blk_drew ?_ | refine blk_alloc ?_ _)); exact BK287.out), (by (with_reducible repeat (first | refine blk_drewN ?_ _ | refine blk_drew ?_ | refine blk_alloc ?_ _)); exact BK300.out), GW300.out, GE300.out, NB285_300.out, NB300_285.out, NB286_300.out, NB300_286.out, NB287_300.out, NB300_287.out, (by repeat (first | (with_reducible first | exact HB.out | apply below_alloc | apply pw_below_drewN | apply below_drew1 | refine below_set ?_ GE285.out | refine below_set ?_ GE286.out | refine below_set ?_ GE287.out | refine below_set ?_ GE300.out) | exact HB.out))⟩)
            · skip
              rintro gb300 w22 ⟨hS_, h0_, h1_, h2_, h3_, h4_, h5_, h6_, h7_, h8_, h9_, h10_, h11_, h12_⟩
              have n0_ : Aside0 (w22.heap[gb285]? = some (.cells #[.bool a1_0, .int .i64 a1_1, .int .i64 a1_2] 27 (0, 0))) := ⟨h0_⟩
              have n1_ : Aside0 (w22.heap[gb286]? = some (.cells #[.bool a2_0, .int .i64 a2_1, .int .i64 a2_2] 27 (0, 0))) := ⟨h1_⟩
              have n2_ : Aside0 (w22.heap[gb287]? = some (.cells #[.bool a3_0, .int .i64 a3_1, .int .i64 a3_2] 27 (0, 0))) := ⟨h2_⟩
              have n3_ : Aside0 (w22.heap[gb300]? = some (.cells #[.bool false, .int .i64 0, .int .i64 0] 23 (0, 0))) := ⟨h3_⟩
              have n4_ : Aside0 (w.heap.size ≤ gb300) := ⟨h4_⟩
              have n5_ : Aside0 (w.heap.size ≤ gb300) := ⟨h5_⟩
              have n6_ : Aside0 (gb285 ≠ gb300) := ⟨h6_⟩
              have n7_ : Aside0 (gb300 ≠ gb285) := ⟨h7_⟩
              have n8_ : Aside0 (gb286 ≠ gb300) := ⟨h8_⟩
              have n9_ : Aside0 (gb300 ≠ gb286) := ⟨h9_⟩
              have n10_ : Aside0 (gb287 ≠ gb300) := ⟨h10_⟩
              have n11_ : Aside0 (gb300 ≠ gb287) := ⟨h11_⟩
              have n12_ : Aside0 (Below w.heap.size w w22) := ⟨h12_⟩
              clear BK285
              clear BK286
              clear BK287
              clear HB
              clear h0_ h1_ h2_ h3_ h4_ h5_ h6_ h7_ h8_ h9_ h10_ h11_ h12_
              have BK285 := n0_
              have BK286 := n1_
              have BK287 := n2_
              have BK300 := n3_
              have GW300 := n4_
              have GE300 := n5_
              have NB285_300 := n6_
              have NB300_285 := n7_
              have NB286_300 := n8_
              have NB300_286 := n9_
              have NB287_300 := n10_
              have NB300_287 := n11_
              have HB := n12_
              clear n0_ n1_ n2_ n3_ n4_ n5_ n6_ n7_ n8_ n9_ n10_ n11_ n12_
              have hHeld : w22.cell? ⟨gb285, 0, none⟩ = some (.bool a1_0) ∧ w22.cell? ⟨gb285, 1, none⟩ = some (.int .i64 a1_1) ∧ w22.cell? ⟨gb285, 2, none⟩ = some (.int .i64 a1_2) ∧ w22.cell? ⟨gb286, 0, none⟩ = some (.bool a2_0) ∧ w22.cell? ⟨gb286, 1, none⟩ = some (.int .i64 a2_1) ∧ w22.cell? ⟨gb286, 2, none⟩ = some (.int .i64 a2_2) ∧ w22.cell? ⟨gb287, 0, none⟩ = some (.bool a3_0) ∧ w22.cell? ⟨gb287, 1, none⟩ = some (.int .i64 a3_1) ∧ w22.cell? ⟨gb287, 2, none⟩ = some (.int .i64 a3_2) := hS_
              refine norm_ (a' := ?_) ?_ ?_
              rotate_left
              · simp only [putAll, Act.put, List.setIfInBounds_toArray, List.set_cons_zero, List.set_cons_succ]
                rfl
              refine one_ (i := 6) (N := some 17) #[true, true, true, true, true, true, true, false, true, false] rfl rfl (one_of HT_.out (by kernel_rfl)) (by decide) (fun K hK => ?_)
              refine goes_ Try.func19 (by kernel_rfl) rfl #[.agg #[.bool a3_0, .int .i64 a3_1, .int .i64 a3_2]] (by rfl) rfl rfl (by (try simp only [List.map_toArray, List.map_cons, List.map_nil]); first | done | rfl | (simp only [List.length_drop, List.length_take]; rfl)) ?_
              with_reducible refine (laws_toSpan.calls a3_0 a3_1 a3_2 t294 t295 t296 _ A7.out).mono ?_
              rintro e w23 ⟨rfl, hb⟩
              refine ⟨_, rfl, ?_⟩
              have n0_ := Aside0.mk (blk_below (g := gb285) (o := .cells #[.bool a1_0, .int .i64 a1_1, .int .i64 a1_2] 27 (0, 0)) (by (with_reducible repeat (first | refine blk_drewN ?_ _ | refine blk_drew ?_ | refine blk_alloc ?_ _)); exact BK285.out) hb)
              have n1_ := Aside0.mk (blk_below (g := gb286) (o := .cells #[.bool a2_0, .int .i64 a2_1, .int .i64 a2_2] 27 (0, 0)) (by (with_reducible repeat (first | refine blk_drewN ?_ _ | refine blk_drew ?_ | refine blk_alloc ?_ _)); exact BK286.out) hb)
              have n2_ := Aside0.mk (blk_below (g := gb287) (o := .cells #[.bool a3_0, .int .i64 a3_1, .int .i64 a3_2] 27 (0, 0)) (by (with_reducible repeat (first | refine blk_drewN ?_ _ | refine blk_drew ?_ | refine blk_alloc ?_ _)); exact BK287.out) hb)
              have n3_ := Aside0.mk (blk_below (g := gb300) (o := .cells #[.bool false, .int .i64 0, .int .i64 0] 23 (0, 0)) (by (with_reducible repeat (first | refine blk_drewN ?_ _ | refine blk_drew ?_ | refine blk_alloc ?_ _)); exact BK300.out) hb)
              have n4_ := Aside0.mk (below_step (by repeat (first | (with_reducible first | exact HB.out | apply below_alloc | apply pw_below_drewN | apply below_drew1 | refine below_set ?_ GE285.out | refine below_set ?_ GE286.out | refine below_set ?_ GE287.out | refine below_set ?_ GE300.out) | exact HB.out)) hb)
              clear BK285
              clear BK286
              clear BK287
              clear BK300
              clear HB
              have BK285 := n0_
              have BK286 := n1_
              have BK287 := n2_
              have BK300 := n3_
              have HB := n4_
              clear n0_ n1_ n2_ n3_ n4_
              (try clear hb)
              (try clear hb2)
              (try clear hk)
              (try clear hi)
              refine hK.out _ _ ⟨(blk_cell BK285.out 0).trans rfl, (blk_cell BK285.out 1).trans rfl, (blk_cell BK285.out 2).trans rfl, (blk_cell BK286.out 0).trans rfl, (blk_cell BK286.out 1).trans rfl, (blk_cell BK286.out 2).trans rfl, (blk_cell BK287.out 0).trans rfl, (blk_cell BK287.out 1).trans rfl, (blk_cell BK287.out 2).trans rfl⟩ (fun hHeld => ?_)
              clear hK K
              refine norm_ (a' := ?_) ?_ ?_
              rotate_left
              · show Act.put _ (some 17) _ = _
                simp only [Act.put, List.setIfInBounds_toArray, List.set_cons_zero, List.set_cons_succ, i64_w, i32_w]
                rfl
              exact norm_ (by first | (simp only [putAll, Act.put, List.setIfInBounds_toArray, List.set_cons_zero, List.set_cons_succ]; done) | (simp only [putAll, Act.put, List.setIfInBounds_toArray, List.set_cons_zero, List.set_cons_succ]; rfl)) (hJ2_4_6_8 (gb300) _ ⟨hHeld, (by (with_reducible repeat (first | refine blk_drewN ?_ _ | refine blk_drew ?_ | refine blk_alloc ?_ _)); exact BK285.out), (by (with_reducible repeat (first | refine blk_drewN ?_ _ | refine blk_drew ?_ | refine blk_alloc ?_ _)); exact BK286.out), (by (with_reducible repeat (first | refine blk_drewN ?_ _ | refine blk_drew ?_ | refine blk_alloc ?_ _)); exact BK287.out), (by (with_reducible repeat (first | refine blk_drewN ?_ _ | refine blk_drew ?_ | refine blk_alloc ?_ _)); exact BK300.out), GW300.out, GE300.out, NB285_300.out, NB300_285.out, NB286_300.out, NB300_286.out, NB287_300.out, NB300_287.out, (by repeat (first | (with_reducible first | exact HB.out | apply below_alloc | apply pw_below_drewN | apply below_drew1 | refine below_set ?_ GE285.out | refine below_set ?_ GE286.out | refine below_set ?_ GE287.out | refine below_set ?_ GE300.out) | exact HB.out))⟩)
          · skip
            rintro _ w22 ⟨hS_, h0_, h1_, h2_, h3_⟩
            have n0_ : Aside0 (w22.heap[gb285]? = some (.cells #[.bool a1_0, .int .i64 a1_1, .int .i64 a1_2] 27 (0, 0))) := ⟨h0_⟩
            have n1_ : Aside0 (w22.heap[gb286]? = some (.cells #[.bool a2_0, .int .i64 a2_1, .int .i64 a2_2] 27 (0, 0))) := ⟨h1_⟩
            have n2_ : Aside0 (w22.heap[gb287]? = some (.cells #[.bool a3_0, .int .i64 a3_1, .int .i64 a3_2] 27 (0, 0))) := ⟨h2_⟩
            have n3_ : Aside0 (Below w.heap.size w w22) := ⟨h3_⟩
            clear BK285
            clear BK286
            clear BK287
            clear HB
            clear h0_ h1_ h2_ h3_
            have BK285 := n0_
            have BK286 := n1_
            have BK287 := n2_
            have HB := n3_
            clear n0_ n1_ n2_ n3_
            have hHeld : w22.cell? ⟨gb285, 0, none⟩ = some (.bool a1_0) ∧ w22.cell? ⟨gb285, 1, none⟩ = some (.int .i64 a1_1) ∧ w22.cell? ⟨gb285, 2, none⟩ = some (.int .i64 a1_2) ∧ w22.cell? ⟨gb286, 0, none⟩ = some (.bool a2_0) ∧ w22.cell? ⟨gb286, 1, none⟩ = some (.int .i64 a2_1) ∧ w22.cell? ⟨gb286, 2, none⟩ = some (.int .i64 a2_2) ∧ w22.cell? ⟨gb287, 0, none⟩ = some (.bool a3_0) ∧ w22.cell? ⟨gb287, 1, none⟩ = some (.int .i64 a3_1) ∧ w22.cell? ⟨gb287, 2, none⟩ = some (.int .i64 a3_2) := hS_
            refine norm_ (a' := ?_) ?_ ?_
            rotate_left
            · simp only [putAll, Act.put, List.setIfInBounds_toArray, List.set_cons_zero, List.set_cons_succ]
              rfl
            refine two_ (i := 7) (j := 8) (Ni := some 18) (Nj := some 9) #[true, true, true, true, true, true, true, true, false, false] #[true, true, true, true, true, true, true, false, true, false] rfl rfl rfl rfl (two_of HT_.out (by kernel_rfl)) (by decide) (by decide) (fun K hK => ?_) (fun K hK => ?_)
            · skip
              refine goes_ Try.func35 (by kernel_rfl) rfl #[.int .i64 a0, .agg #[.bool t288, .int .i64 t289, .int .i64 t290], .agg #[.bool t291, .int .i64 t292, .int .i64 t293], .agg #[.bool t294, .int .i64 t295, .int .i64 t296]] (by rfl) rfl rfl (by (try simp only [List.map_toArray, List.map_cons, List.map_nil]); first | done | rfl | (simp only [List.length_drop, List.length_take]; rfl)) ?_
              with_reducible refine (spec_BackMax.calls k a0 t288 t289 t290 t291 t292 t293 t294 t295 t296 t297 t298 t299 _ A8.out).mono ?_
              rintro e w23 ⟨rfl, hb⟩
              refine ⟨_, rfl, ?_⟩
              have n0_ := Aside0.mk (blk_below (g := gb285) (o := .cells #[.bool a1_0, .int .i64 a1_1, .int .i64 a1_2] 27 (0, 0)) (by (with_reducible repeat (first | refine blk_drewN ?_ _ | refine blk_drew ?_ | refine blk_alloc ?_ _)); exact BK285.out) hb)
              have n1_ := Aside0.mk (blk_below (g := gb286) (o := .cells #[.bool a2_0, .int .i64 a2_1, .int .i64 a2_2] 27 (0, 0)) (by (with_reducible repeat (first | refine blk_drewN ?_ _ | refine blk_drew ?_ | refine blk_alloc ?_ _)); exact BK286.out) hb)
              have n2_ := Aside0.mk (blk_below (g := gb287) (o := .cells #[.bool a3_0, .int .i64 a3_1, .int .i64 a3_2] 27 (0, 0)) (by (with_reducible repeat (first | refine blk_drewN ?_ _ | refine blk_drew ?_ | refine blk_alloc ?_ _)); exact BK287.out) hb)
              have n3_ := Aside0.mk (below_step (by repeat (first | (with_reducible first | exact HB.out | apply below_alloc | apply pw_below_drewN | apply below_drew1 | refine below_set ?_ GE285.out | refine below_set ?_ GE286.out | refine below_set ?_ GE287.out) | exact HB.out)) hb)
              clear BK285
              clear BK286
              clear BK287
              clear HB
              have BK285 := n0_
              have BK286 := n1_
              have BK287 := n2_
              have HB := n3_
              clear n0_ n1_ n2_ n3_
              (try clear hb)
              (try clear hb2)
              (try clear hk)
              (try clear hi)
              refine hK.out _ _ ⟨(blk_cell BK285.out 0).trans rfl, (blk_cell BK285.out 1).trans rfl, (blk_cell BK285.out 2).trans rfl, (blk_cell BK286.out 0).trans rfl, (blk_cell BK286.out 1).trans rfl, (blk_cell BK286.out 2).trans rfl, (blk_cell BK287.out 0).trans rfl, (blk_cell BK287.out 1).trans rfl, (blk_cell BK287.out 2).trans rfl⟩ (fun hHeld => ?_)
              clear hK K
              refine norm_ (a' := ?_) ?_ ?_
              rotate_left
              · show Act.put _ (some 18) _ = _
                simp only [Act.put, List.setIfInBounds_toArray, List.set_cons_zero, List.set_cons_succ, i64_w, i32_w]
                rfl
              exact norm_ (by first | (simp only [putAll, Act.put, List.setIfInBounds_toArray, List.set_cons_zero, List.set_cons_succ]; done) | (simp only [putAll, Act.put, List.setIfInBounds_toArray, List.set_cons_zero, List.set_cons_succ]; rfl)) (hJ2_4_6_7 () _ ⟨hHeld, (by (with_reducible repeat (first | refine blk_drewN ?_ _ | refine blk_drew ?_ | refine blk_alloc ?_ _)); exact BK285.out), (by (with_reducible repeat (first | refine blk_drewN ?_ _ | refine blk_drew ?_ | refine blk_alloc ?_ _)); exact BK286.out), (by (with_reducible repeat (first | refine blk_drewN ?_ _ | refine blk_drew ?_ | refine blk_alloc ?_ _)); exact BK287.out), (by repeat (first | (with_reducible first | exact HB.out | apply below_alloc | apply pw_below_drewN | apply below_drew1 | refine below_set ?_ GE285.out | refine below_set ?_ GE286.out | refine below_set ?_ GE287.out) | exact HB.out))⟩)
            · skip
              refine box_step ?hg (N := 9) ?hd (cs := #[.bool false, .int .i64 0, .int .i64 0]) (t := 23) ?hr ?_; (case hd => rfl); (case hg => rfl); (case hr => first | (go_simp; done) | (go_simp; rfl))
              intro gb300 hg w23 hbox hb
              have n0_ := Aside0.mk (blk_below (g := gb285) (o := .cells #[.bool a1_0, .int .i64 a1_1, .int .i64 a1_2] 27 (0, 0)) (by (with_reducible repeat (first | refine blk_drewN ?_ _ | refine blk_drew ?_ | refine blk_alloc ?_ _)); exact BK285.out) hb)
              have n1_ := Aside0.mk (blk_below (g := gb286) (o := .cells #[.bool a2_0, .int .i64 a2_1, .int .i64 a2_2] 27 (0, 0)) (by (with_reducible repeat (first | refine blk_drewN ?_ _ | refine blk_drew ?_ | refine blk_alloc ?_ _)); exact BK286.out) hb)
              have n2_ := Aside0.mk (blk_below (g := gb287) (o := .cells #[.bool a3_0, .int .i64 a3_1, .int .i64 a3_2] 27 (0, 0)) (by (with_reducible repeat (first | refine blk_drewN ?_ _ | refine blk_drew ?_ | refine blk_alloc ?_ _)); exact BK287.out) hb)
              have n3_ := Aside0.mk (below_step (by repeat (first | (with_reducible first | exact HB.out | apply below_alloc | apply pw_below_drewN | apply below_drew1 | refine below_set ?_ GE285.out | refine below_set ?_ GE286.out | refine below_set ?_ GE287.out) | exact HB.out)) hb)
              have n4_ := Aside0.mk (hbox)
              have n5_ := Aside0.mk ((by rw [hg]; exact (below_size (by repeat (first | (with_reducible first | exact HB.out | apply below_alloc | apply pw_below_drewN | apply below_drew1 | refine below_set ?_ GE285.out | refine below_set ?_ GE286.out | refine below_set ?_ GE287.out) | exact HB.out))) : w.heap.size ≤ gb300))
              have n6_ := Aside0.mk ((by rw [hg]; exact (below_size (by repeat (first | (with_reducible first | exact HB.out | apply below_alloc | apply pw_below_drewN | apply below_drew1 | refine below_set ?_ GE285.out | refine below_set ?_ GE286.out | refine below_set ?_ GE287.out) | exact HB.out))) : w.heap.size ≤ gb300))
              have n7_ := Aside0.mk ((by rw [hg]; exact Nat.ne_of_lt (blk_lt (g := gb285) (o := .cells #[.bool a1_0, .int .i64 a1_1, .int .i64 a1_2] 27 (0, 0)) (by (with_reducible repeat (first | refine blk_drewN ?_ _ | refine blk_drew ?_ | refine blk_alloc ?_ _)); exact BK285.out)) : gb285 ≠ gb300))
              have n8_ := Aside0.mk ((by rw [hg]; exact Nat.ne_of_gt (blk_lt (g := gb285) (o := .cells #[.bool a1_0, .int .i64 a1_1, .int .i64 a1_2] 27 (0, 0)) (by (with_reducible repeat (first | refine blk_drewN ?_ _ | refine blk_drew ?_ | refine blk_alloc ?_ _)); exact BK285.out)) : gb300 ≠ gb285))
              have n9_ := Aside0.mk ((by rw [hg]; exact Nat.ne_of_lt (blk_lt (g := gb286) (o := .cells #[.bool a2_0, .int .i64 a2_1, .int .i64 a2_2] 27 (0, 0)) (by (with_reducible repeat (first | refine blk_drewN ?_ _ | refine blk_drew ?_ | refine blk_alloc ?_ _)); exact BK286.out)) : gb286 ≠ gb300))
              have n10_ := Aside0.mk ((by rw [hg]; exact Nat.ne_of_gt (blk_lt (g := gb286) (o := .cells #[.bool a2_0, .int .i64 a2_1, .int .i64 a2_2] 27 (0, 0)) (by (with_reducible repeat (first | refine blk_drewN ?_ _ | refine blk_drew ?_ | refine blk_alloc ?_ _)); exact BK286.out)) : gb300 ≠ gb286))
              have n11_ := Aside0.mk ((by rw [hg]; exact Nat.ne_of_lt (blk_lt (g := gb287) (o := .cells #[.bool a3_0, .int .i64 a3_1, .int .i64 a3_2] 27 (0, 0)) (by (with_reducible repeat (first | refine blk_drewN ?_ _ | refine blk_drew ?_ | refine blk_alloc ?_ _)); exact BK287.out)) : gb287 ≠ gb300))
              have n12_ := Aside0.mk ((by rw [hg]; exact Nat.ne_of_gt (blk_lt (g := gb287) (o := .cells #[.bool a3_0, .int .i64 a3_1, .int .i64 a3_2] 27 (0, 0)) (by (with_reducible repeat (first | refine blk_drewN ?_ _ | refine blk_drew ?_ | refine blk_alloc ?_ _)); exact BK287.out)) : gb300 ≠ gb287))
              clear BK285
              clear BK286
              clear BK287
              clear HB
              have BK285 := n0_
              have BK286 := n1_
              have BK287 := n2_
              have HB := n3_
              have BK300 := n4_
              have GW300 := n5_
              have GE300 := n6_
              have NB285_300 := n7_
              have NB300_285 := n8_
              have NB286_300 := n9_
              have NB300_286 := n10_
              have NB287_300 := n11_
              have NB300_287 := n12_
              clear n0_ n1_ n2_ n3_ n4_ n5_ n6_ n7_ n8_ n9_ n10_ n11_ n12_
              clear hb hbox hg
              refine hK.out _ _ ⟨(blk_cell BK285.out 0).trans rfl, (blk_cell BK285.out 1).trans rfl, (blk_cell BK285.out 2).trans rfl, (blk_cell BK286.out 0).trans rfl, (blk_cell BK286.out 1).trans rfl, (blk_cell BK286.out 2).trans rfl, (blk_cell BK287.out 0).trans rfl, (blk_cell BK287.out 1).trans rfl, (blk_cell BK287.out 2).trans rfl⟩ (fun hHeld => ?_)
              clear hK K
              refine norm_ (a' := ?_) ?_ ?_
              rotate_left
              · show Act.put _ (some 9) _ = _
                simp only [Act.put, List.setIfInBounds_toArray, List.set_cons_zero, List.set_cons_succ, i64_w, i32_w]
                rfl
              exact norm_ (by first | (simp only [putAll, Act.put, List.setIfInBounds_toArray, List.set_cons_zero, List.set_cons_succ]; done) | (simp only [putAll, Act.put, List.setIfInBounds_toArray, List.set_cons_zero, List.set_cons_succ]; rfl)) (hJ2_4_6_8 (gb300) _ ⟨hHeld, (by (with_reducible repeat (first | refine blk_drewN ?_ _ | refine blk_drew ?_ | refine blk_alloc ?_ _)); exact BK285.out), (by (with_reducible repeat (first | refine blk_drewN ?_ _ | refine blk_drew ?_ | refine blk_alloc ?_ _)); exact BK286.out), (by (with_reducible repeat (first | refine blk_drewN ?_ _ | refine blk_drew ?_ | refine blk_alloc ?_ _)); exact BK287.out), (by (with_reducible repeat (first | refine blk_drewN ?_ _ | refine blk_drew ?_ | refine blk_alloc ?_ _)); exact BK300.out), GW300.out, GE300.out, NB285_300.out, NB300_285.out, NB286_300.out, NB300_286.out, NB287_300.out, NB300_287.out, (by repeat (first | (with_reducible first | exact HB.out | apply below_alloc | apply pw_below_drewN | apply below_drew1 | refine below_set ?_ GE285.out | refine below_set ?_ GE286.out | refine below_set ?_ GE287.out | refine below_set ?_ GE300.out) | exact HB.out))⟩)
        · skip
          rintro gb300 w23 ⟨hS_, h0_, h1_, h2_, h3_, h4_, h5_, h6_, h7_, h8_, h9_, h10_, h11_, h12_⟩
          have n0_ : Aside0 (w23.heap[gb285]? = some (.cells #[.bool a1_0, .int .i64 a1_1, .int .i64 a1_2] 27 (0, 0))) := ⟨h0_⟩
          have n1_ : Aside0 (w23.heap[gb286]? = some (.cells #[.bool a2_0, .int .i64 a2_1, .int .i64 a2_2] 27 (0, 0))) := ⟨h1_⟩
          have n2_ : Aside0 (w23.heap[gb287]? = some (.cells #[.bool a3_0, .int .i64 a3_1, .int .i64 a3_2] 27 (0, 0))) := ⟨h2_⟩
          have n3_ : Aside0 (w23.heap[gb300]? = some (.cells #[.bool false, .int .i64 0, .int .i64 0] 23 (0, 0))) := ⟨h3_⟩
          have n4_ : Aside0 (w.heap.size ≤ gb300) := ⟨h4_⟩
          have n5_ : Aside0 (w.heap.size ≤ gb300) := ⟨h5_⟩
          have n6_ : Aside0 (gb285 ≠ gb300) := ⟨h6_⟩
          have n7_ : Aside0 (gb300 ≠ gb285) := ⟨h7_⟩
          have n8_ : Aside0 (gb286 ≠ gb300) := ⟨h8_⟩
          have n9_ : Aside0 (gb300 ≠ gb286) := ⟨h9_⟩
          have n10_ : Aside0 (gb287 ≠ gb300) := ⟨h10_⟩
          have n11_ : Aside0 (gb300 ≠ gb287) := ⟨h11_⟩
          have n12_ : Aside0 (Below w.heap.size w w23) := ⟨h12_⟩
          clear BK285
          clear BK286
          clear BK287
          clear HB
          clear h0_ h1_ h2_ h3_ h4_ h5_ h6_ h7_ h8_ h9_ h10_ h11_ h12_
          have BK285 := n0_
          have BK286 := n1_
          have BK287 := n2_
          have BK300 := n3_
          have GW300 := n4_
          have GE300 := n5_
          have NB285_300 := n6_
          have NB300_285 := n7_
          have NB286_300 := n8_
          have NB300_286 := n9_
          have NB287_300 := n10_
          have NB300_287 := n11_
          have HB := n12_
          clear n0_ n1_ n2_ n3_ n4_ n5_ n6_ n7_ n8_ n9_ n10_ n11_ n12_
          have hHeld : w23.cell? ⟨gb285, 0, none⟩ = some (.bool a1_0) ∧ w23.cell? ⟨gb285, 1, none⟩ = some (.int .i64 a1_1) ∧ w23.cell? ⟨gb285, 2, none⟩ = some (.int .i64 a1_2) ∧ w23.cell? ⟨gb286, 0, none⟩ = some (.bool a2_0) ∧ w23.cell? ⟨gb286, 1, none⟩ = some (.int .i64 a2_1) ∧ w23.cell? ⟨gb286, 2, none⟩ = some (.int .i64 a2_2) ∧ w23.cell? ⟨gb287, 0, none⟩ = some (.bool a3_0) ∧ w23.cell? ⟨gb287, 1, none⟩ = some (.int .i64 a3_1) ∧ w23.cell? ⟨gb287, 2, none⟩ = some (.int .i64 a3_2) := hS_
          refine norm_ (a' := ?_) ?_ ?_
          rotate_left
          · simp only [putAll, Act.put, List.setIfInBounds_toArray, List.set_cons_zero, List.set_cons_succ]
            rfl
          refine one_ (i := 7) (N := some 18) #[true, true, true, true, true, true, true, true, true, false] rfl rfl (one_of HT_.out (by kernel_rfl)) (by decide) (fun K hK => ?_)
          refine goes_ Try.func35 (by kernel_rfl) rfl #[.int .i64 a0, .agg #[.bool t288, .int .i64 t289, .int .i64 t290], .agg #[.bool t291, .int .i64 t292, .int .i64 t293], .agg #[.bool t294, .int .i64 t295, .int .i64 t296]] (by rfl) rfl rfl (by (try simp only [List.map_toArray, List.map_cons, List.map_nil]); first | done | rfl | (simp only [List.length_drop, List.length_take]; rfl)) ?_
          with_reducible refine (spec_BackMax.calls k a0 t288 t289 t290 t291 t292 t293 t294 t295 t296 t297 t298 t299 _ A8.out).mono ?_
          rintro e w24 ⟨rfl, hb⟩
          refine ⟨_, rfl, ?_⟩
          have n0_ := Aside0.mk (blk_below (g := gb285) (o := .cells #[.bool a1_0, .int .i64 a1_1, .int .i64 a1_2] 27 (0, 0)) (by (with_reducible repeat (first | refine blk_drewN ?_ _ | refine blk_drew ?_ | refine blk_alloc ?_ _)); exact BK285.out) hb)
          have n1_ := Aside0.mk (blk_below (g := gb286) (o := .cells #[.bool a2_0, .int .i64 a2_1, .int .i64 a2_2] 27 (0, 0)) (by (with_reducible repeat (first | refine blk_drewN ?_ _ | refine blk_drew ?_ | refine blk_alloc ?_ _)); exact BK286.out) hb)
          have n2_ := Aside0.mk (blk_below (g := gb287) (o := .cells #[.bool a3_0, .int .i64 a3_1, .int .i64 a3_2] 27 (0, 0)) (by (with_reducible repeat (first | refine blk_drewN ?_ _ | refine blk_drew ?_ | refine blk_alloc ?_ _)); exact BK287.out) hb)
          have n3_ := Aside0.mk (blk_below (g := gb300) (o := .cells #[.bool false, .int .i64 0, .int .i64 0] 23 (0, 0)) (by (with_reducible repeat (first | refine blk_drewN ?_ _ | refine blk_drew ?_ | refine blk_alloc ?_ _)); exact BK300.out) hb)
          have n4_ := Aside0.mk (below_step (by repeat (first | (with_reducible first | exact HB.out | apply below_alloc | apply pw_below_drewN | apply below_drew1 | refine below_set ?_ GE285.out | refine below_set ?_ GE286.out | refine below_set ?_ GE287.out | refine below_set ?_ GE300.out) | exact HB.out)) hb)
          clear BK285
          clear BK286
          clear BK287
          clear BK300
          clear HB
          have BK285 := n0_
          have BK286 := n1_
          have BK287 := n2_
          have BK300 := n3_
          have HB := n4_
          clear n0_ n1_ n2_ n3_ n4_
          (try clear hb)
          (try clear hb2)
          (try clear hk)
          (try clear hi)
          refine hK.out _ _ ⟨(blk_cell BK285.out 0).trans rfl, (blk_cell BK285.out 1).trans rfl, (blk_cell BK285.out 2).trans rfl, (blk_cell BK286.out 0).trans rfl, (blk_cell BK286.out 1).trans rfl, (blk_cell BK286.out 2).trans rfl, (blk_cell BK287.out 0).trans rfl, (blk_cell BK287.out 1).trans rfl, (blk_cell BK287.out 2).trans rfl⟩ (fun hHeld => ?_)
          clear hK K
          refine norm_ (a' := ?_) ?_ ?_
          rotate_left
          · show Act.put _ (some 18) _ = _
            simp only [Act.put, List.setIfInBounds_toArray, List.set_cons_zero, List.set_cons_succ, i64_w, i32_w]
            rfl
          exact norm_ (by first | (simp only [putAll, Act.put, List.setIfInBounds_toArray, List.set_cons_zero, List.set_cons_succ]; done) | (simp only [putAll, Act.put, List.setIfInBounds_toArray, List.set_cons_zero, List.set_cons_succ]; rfl)) (hJ2_4_6_7_8 (gb300) _ ⟨hHeld, (by (with_reducible repeat (first | refine blk_drewN ?_ _ | refine blk_drew ?_ | refine blk_alloc ?_ _)); exact BK285.out), (by (with_reducible repeat (first | refine blk_drewN ?_ _ | refine blk_drew ?_ | refine blk_alloc ?_ _)); exact BK286.out), (by (with_reducible repeat (first | refine blk_drewN ?_ _ | refine blk_drew ?_ | refine blk_alloc ?_ _)); exact BK287.out), (by (with_reducible repeat (first | refine blk_drewN ?_ _ | refine blk_drew ?_ | refine blk_alloc ?_ _)); exact BK300.out), GW300.out, GE300.out, NB285_300.out, NB300_285.out, NB286_300.out, NB300_286.out, NB287_300.out, NB300_287.out, (by repeat (first | (with_reducible first | exact HB.out | apply below_alloc | apply pw_below_drewN | apply below_drew1 | refine below_set ?_ GE285.out | refine below_set ?_ GE286.out | refine below_set ?_ GE287.out | refine below_set ?_ GE300.out) | exact HB.out))⟩)
      · skip
        rintro _ w23 ⟨hS_, h0_, h1_, h2_, h3_⟩
        have n0_ : Aside0 (w23.heap[gb285]? = some (.cells #[.bool a1_0, .int .i64 a1_1, .int .i64 a1_2] 27 (0, 0))) := ⟨h0_⟩
        have n1_ : Aside0 (w23.heap[gb286]? = some (.cells #[.bool a2_0, .int .i64 a2_1, .int .i64 a2_2] 27 (0, 0))) := ⟨h1_⟩
        have n2_ : Aside0 (w23.heap[gb287]? = some (.cells #[.bool a3_0, .int .i64 a3_1, .int .i64 a3_2] 27 (0, 0))) := ⟨h2_⟩
        have n3_ : Aside0 (Below w.heap.size w w23) := ⟨h3_⟩
        clear BK285
        clear BK286
        clear BK287
        clear HB
        clear h0_ h1_ h2_ h3_
        have BK285 := n0_
        have BK286 := n1_
        have BK287 := n2_
        have HB := n3_
        clear n0_ n1_ n2_ n3_
        have hHeld : w23.cell? ⟨gb285, 0, none⟩ = some (.bool a1_0) ∧ w23.cell? ⟨gb285, 1, none⟩ = some (.int .i64 a1_1) ∧ w23.cell? ⟨gb285, 2, none⟩ = some (.int .i64 a1_2) ∧ w23.cell? ⟨gb286, 0, none⟩ = some (.bool a2_0) ∧ w23.cell? ⟨gb286, 1, none⟩ = some (.int .i64 a2_1) ∧ w23.cell? ⟨gb286, 2, none⟩ = some (.int .i64 a2_2) ∧ w23.cell? ⟨gb287, 0, none⟩ = some (.bool a3_0) ∧ w23.cell? ⟨gb287, 1, none⟩ = some (.int .i64 a3_1) ∧ w23.cell? ⟨gb287, 2, none⟩ = some (.int .i64 a3_2) := hS_
        refine norm_ (a' := ?_) ?_ ?_
        rotate_left
        · simp only [putAll, Act.put, List.setIfInBounds_toArray, List.set_cons_zero, List.set_cons_succ]
          rfl
        refine one_ (i := 8) (N := some 9) #[true, true, true, true, true, true, true, true, true, false] rfl rfl (one_of HT_.out (by kernel_rfl)) (by decide) (fun K hK => ?_)
        refine box_step ?hg (N := 9) ?hd (cs := #[.bool false, .int .i64 0, .int .i64 0]) (t := 23) ?hr ?_; (case hd => rfl); (case hg => rfl); (case hr => first | (go_simp; done) | (go_simp; rfl))
        intro gb300 hg w24 hbox hb
        have n0_ := Aside0.mk (blk_below (g := gb285) (o := .cells #[.bool a1_0, .int .i64 a1_1, .int .i64 a1_2] 27 (0, 0)) (by (with_reducible repeat (first | refine blk_drewN ?_ _ | refine blk_drew ?_ | refine blk_alloc ?_ _)); exact BK285.out) hb)
        have n1_ := Aside0.mk (blk_below (g := gb286) (o := .cells #[.bool a2_0, .int .i64 a2_1, .int .i64 a2_2] 27 (0, 0)) (by (with_reducible repeat (first | refine blk_drewN ?_ _ | refine blk_drew ?_ | refine blk_alloc ?_ _)); exact BK286.out) hb)
        have n2_ := Aside0.mk (blk_below (g := gb287) (o := .cells #[.bool a3_0, .int .i64 a3_1, .int .i64 a3_2] 27 (0, 0)) (by (with_reducible repeat (first | refine blk_drewN ?_ _ | refine blk_drew ?_ | refine blk_alloc ?_ _)); exact BK287.out) hb)
        have n3_ := Aside0.mk (below_step (by repeat (first | (with_reducible first | exact HB.out | apply below_alloc | apply pw_below_drewN | apply below_drew1 | refine below_set ?_ GE285.out | refine below_set ?_ GE286.out | refine below_set ?_ GE287.out) | exact HB.out)) hb)
        have n4_ := Aside0.mk (hbox)
        have n5_ := Aside0.mk ((by rw [hg]; exact (below_size (by repeat (first | (with_reducible first | exact HB.out | apply below_alloc | apply pw_below_drewN | apply below_drew1 | refine below_set ?_ GE285.out | refine below_set ?_ GE286.out | refine below_set ?_ GE287.out) | exact HB.out))) : w.heap.size ≤ gb300))
        have n6_ := Aside0.mk ((by rw [hg]; exact (below_size (by repeat (first | (with_reducible first | exact HB.out | apply below_alloc | apply pw_below_drewN | apply below_drew1 | refine below_set ?_ GE285.out | refine below_set ?_ GE286.out | refine below_set ?_ GE287.out) | exact HB.out))) : w.heap.size ≤ gb300))
        have n7_ := Aside0.mk ((by rw [hg]; exact Nat.ne_of_lt (blk_lt (g := gb285) (o := .cells #[.bool a1_0, .int .i64 a1_1, .int .i64 a1_2] 27 (0, 0)) (by (with_reducible repeat (first | refine blk_drewN ?_ _ | refine blk_drew ?_ | refine blk_alloc ?_ _)); exact BK285.out)) : gb285 ≠ gb300))
        have n8_ := Aside0.mk ((by rw [hg]; exact Nat.ne_of_gt (blk_lt (g := gb285) (o := .cells #[.bool a1_0, .int .i64 a1_1, .int .i64 a1_2] 27 (0, 0)) (by (with_reducible repeat (first | refine blk_drewN ?_ _ | refine blk_drew ?_ | refine blk_alloc ?_ _)); exact BK285.out)) : gb300 ≠ gb285))
        have n9_ := Aside0.mk ((by rw [hg]; exact Nat.ne_of_lt (blk_lt (g := gb286) (o := .cells #[.bool a2_0, .int .i64 a2_1, .int .i64 a2_2] 27 (0, 0)) (by (with_reducible repeat (first | refine blk_drewN ?_ _ | refine blk_drew ?_ | refine blk_alloc ?_ _)); exact BK286.out)) : gb286 ≠ gb300))
        have n10_ := Aside0.mk ((by rw [hg]; exact Nat.ne_of_gt (blk_lt (g := gb286) (o := .cells #[.bool a2_0, .int .i64 a2_1, .int .i64 a2_2] 27 (0, 0)) (by (with_reducible repeat (first | refine blk_drewN ?_ _ | refine blk_drew ?_ | refine blk_alloc ?_ _)); exact BK286.out)) : gb300 ≠ gb286))
        have n11_ := Aside0.mk ((by rw [hg]; exact Nat.ne_of_lt (blk_lt (g := gb287) (o := .cells #[.bool a3_0, .int .i64 a3_1, .int .i64 a3_2] 27 (0, 0)) (by (with_reducible repeat (first | refine blk_drewN ?_ _ | refine blk_drew ?_ | refine blk_alloc ?_ _)); exact BK287.out)) : gb287 ≠ gb300))
        have n12_ := Aside0.mk ((by rw [hg]; exact Nat.ne_of_gt (blk_lt (g := gb287) (o := .cells #[.bool a3_0, .int .i64 a3_1, .int .i64 a3_2] 27 (0, 0)) (by (with_reducible repeat (first | refine blk_drewN ?_ _ | refine blk_drew ?_ | refine blk_alloc ?_ _)); exact BK287.out)) : gb300 ≠ gb287))
        clear BK285
        clear BK286
        clear BK287
        clear HB
        have BK285 := n0_
        have BK286 := n1_
        have BK287 := n2_
        have HB := n3_
        have BK300 := n4_
        have GW300 := n5_
        have GE300 := n6_
        have NB285_300 := n7_
        have NB300_285 := n8_
        have NB286_300 := n9_
        have NB300_286 := n10_
        have NB287_300 := n11_
        have NB300_287 := n12_
        clear n0_ n1_ n2_ n3_ n4_ n5_ n6_ n7_ n8_ n9_ n10_ n11_ n12_
        clear hb hbox hg
        refine hK.out _ _ ⟨(blk_cell BK285.out 0).trans rfl, (blk_cell BK285.out 1).trans rfl, (blk_cell BK285.out 2).trans rfl, (blk_cell BK286.out 0).trans rfl, (blk_cell BK286.out 1).trans rfl, (blk_cell BK286.out 2).trans rfl, (blk_cell BK287.out 0).trans rfl, (blk_cell BK287.out 1).trans rfl, (blk_cell BK287.out 2).trans rfl⟩ (fun hHeld => ?_)
        clear hK K
        refine norm_ (a' := ?_) ?_ ?_
        rotate_left
        · show Act.put _ (some 9) _ = _
          simp only [Act.put, List.setIfInBounds_toArray, List.set_cons_zero, List.set_cons_succ, i64_w, i32_w]
          rfl
        exact norm_ (by first | (simp only [putAll, Act.put, List.setIfInBounds_toArray, List.set_cons_zero, List.set_cons_succ]; done) | (simp only [putAll, Act.put, List.setIfInBounds_toArray, List.set_cons_zero, List.set_cons_succ]; rfl)) (hJ2_4_6_7_8 (gb300) _ ⟨hHeld, (by (with_reducible repeat (first | refine blk_drewN ?_ _ | refine blk_drew ?_ | refine blk_alloc ?_ _)); exact BK285.out), (by (with_reducible repeat (first | refine blk_drewN ?_ _ | refine blk_drew ?_ | refine blk_alloc ?_ _)); exact BK286.out), (by (with_reducible repeat (first | refine blk_drewN ?_ _ | refine blk_drew ?_ | refine blk_alloc ?_ _)); exact BK287.out), (by (with_reducible repeat (first | refine blk_drewN ?_ _ | refine blk_drew ?_ | refine blk_alloc ?_ _)); exact BK300.out), GW300.out, GE300.out, NB285_300.out, NB300_285.out, NB286_300.out, NB300_286.out, NB287_300.out, NB300_287.out, (by repeat (first | (with_reducible first | exact HB.out | apply below_alloc | apply pw_below_drewN | apply below_drew1 | refine below_set ?_ GE285.out | refine below_set ?_ GE286.out | refine below_set ?_ GE287.out | refine below_set ?_ GE300.out) | exact HB.out))⟩)
    rintro gb300 w24 ⟨hS_, h0_, h1_, h2_, h3_, h4_, h5_, h6_, h7_, h8_, h9_, h10_, h11_, h12_⟩
    have n0_ : Aside0 (w24.heap[gb285]? = some (.cells #[.bool a1_0, .int .i64 a1_1, .int .i64 a1_2] 27 (0, 0))) := ⟨h0_⟩
    have n1_ : Aside0 (w24.heap[gb286]? = some (.cells #[.bool a2_0, .int .i64 a2_1, .int .i64 a2_2] 27 (0, 0))) := ⟨h1_⟩
    have n2_ : Aside0 (w24.heap[gb287]? = some (.cells #[.bool a3_0, .int .i64 a3_1, .int .i64 a3_2] 27 (0, 0))) := ⟨h2_⟩
    have n3_ : Aside0 (w24.heap[gb300]? = some (.cells #[.bool false, .int .i64 0, .int .i64 0] 23 (0, 0))) := ⟨h3_⟩
    have n4_ : Aside0 (w.heap.size ≤ gb300) := ⟨h4_⟩
    have n5_ : Aside0 (w.heap.size ≤ gb300) := ⟨h5_⟩
    have n6_ : Aside0 (gb285 ≠ gb300) := ⟨h6_⟩
    have n7_ : Aside0 (gb300 ≠ gb285) := ⟨h7_⟩
    have n8_ : Aside0 (gb286 ≠ gb300) := ⟨h8_⟩
    have n9_ : Aside0 (gb300 ≠ gb286) := ⟨h9_⟩
    have n10_ : Aside0 (gb287 ≠ gb300) := ⟨h10_⟩
    have n11_ : Aside0 (gb300 ≠ gb287) := ⟨h11_⟩
    have n12_ : Aside0 (Below w.heap.size w w24) := ⟨h12_⟩
    clear BK285
    clear BK286
    clear BK287
    clear HB
    clear h0_ h1_ h2_ h3_ h4_ h5_ h6_ h7_ h8_ h9_ h10_ h11_ h12_
    have BK285 := n0_
    have BK286 := n1_
    have BK287 := n2_
    have BK300 := n3_
    have GW300 := n4_
    have GE300 := n5_
    have NB285_300 := n6_
    have NB300_285 := n7_
    have NB286_300 := n8_
    have NB300_286 := n9_
    have NB287_300 := n10_
    have NB300_287 := n11_
    have HB := n12_
    clear n0_ n1_ n2_ n3_ n4_ n5_ n6_ n7_ n8_ n9_ n10_ n11_ n12_
    have hHeld : w24.cell? ⟨gb285, 0, none⟩ = some (.bool a1_0) ∧ w24.cell? ⟨gb285, 1, none⟩ = some (.int .i64 a1_1) ∧ w24.cell? ⟨gb285, 2, none⟩ = some (.int .i64 a1_2) ∧ w24.cell? ⟨gb286, 0, none⟩ = some (.bool a2_0) ∧ w24.cell? ⟨gb286, 1, none⟩ = some (.int .i64 a2_1) ∧ w24.cell? ⟨gb286, 2, none⟩ = some (.int .i64 a2_2) ∧ w24.cell? ⟨gb287, 0, none⟩ = some (.bool a3_0) ∧ w24.cell? ⟨gb287, 1, none⟩ = some (.int .i64 a3_1) ∧ w24.cell? ⟨gb287, 2, none⟩ = some (.int .i64 a3_2) := hS_
    refine norm_ (a' := ?_) ?_ ?_
    rotate_left
    · simp only [putAll, Act.put, List.setIfInBounds_toArray, List.set_cons_zero, List.set_cons_succ]
      rfl
    refine one_ (i := 9) (N := none) #[true, true, true, true, true, true, true, true, true, true] rfl rfl (one_of HT_.out (by kernel_rfl)) (by decide) (fun K hK => ?_)
    have hs25 : w24.cell? ⟨gb300, 0, none⟩ = some (.bool false) := (blk_cell BK300.out 0).trans rfl
    have hfs25 := blk_frozen BK300.out 0
    have hns25_0 := NB285_300.out
    have hns25_1 := NB286_300.out
    have hns25_2 := NB287_300.out
    have hms25_0 := NB300_285.out
    have hms25_1 := NB300_286.out
    have hms25_2 := NB300_287.out
    have hs26 : w24.cell? ⟨gb300, 1, none⟩ = some (.int .i64 0) := (blk_cell BK300.out 1).trans rfl
    have hfs26 := blk_frozen BK300.out 1
    have hns26_0 := NB285_300.out
    have hns26_1 := NB286_300.out
    have hns26_2 := NB287_300.out
    have hms26_0 := NB300_285.out
    have hms26_1 := NB300_286.out
    have hms26_2 := NB300_287.out
    have hs27 : w24.cell? ⟨gb300, 2, none⟩ = some (.int .i64 0) := (blk_cell BK300.out 2).trans rfl
    have hfs27 := blk_frozen BK300.out 2
    have hns27_0 := NB285_300.out
    have hns27_1 := NB286_300.out
    have hns27_2 := NB287_300.out
    have hms27_0 := NB300_285.out
    have hms27_1 := NB300_286.out
    have hms27_2 := NB300_287.out
    refine skip_ (w1 := ?_) (by rfl) rfl ?_ ?_
    rotate_left
    · go_simp
      rfl
    refine hK.out _ _ ⟨((cell_far (p := ⟨gb300, _, none⟩) NB285_300.out _).trans (((cell_far (p := ⟨gb300, _, none⟩) NB285_300.out _).trans (((cell_far (p := ⟨gb300, _, none⟩) NB285_300.out _).trans (hHeld.1)))))), ((cell_far (p := ⟨gb300, _, none⟩) NB285_300.out _).trans (((cell_far (p := ⟨gb300, _, none⟩) NB285_300.out _).trans (((cell_far (p := ⟨gb300, _, none⟩) NB285_300.out _).trans (hHeld.2.1)))))), ((cell_far (p := ⟨gb300, _, none⟩) NB285_300.out _).trans (((cell_far (p := ⟨gb300, _, none⟩) NB285_300.out _).trans (((cell_far (p := ⟨gb300, _, none⟩) NB285_300.out _).trans (hHeld.2.2.1)))))), ((cell_far (p := ⟨gb300, _, none⟩) NB286_300.out _).trans (((cell_far (p := ⟨gb300, _, none⟩) NB286_300.out _).trans (((cell_far (p := ⟨gb300, _, none⟩) NB286_300.out _).trans (hHeld.2.2.2.1)))))), ((cell_far (p := ⟨gb300, _, none⟩) NB286_300.out _).trans (((cell_far (p := ⟨gb300, _, none⟩) NB286_300.out _).trans (((cell_far (p := ⟨gb300, _, none⟩) NB286_300.out _).trans (hHeld.2.2.2.2.1)))))), ((cell_far (p := ⟨gb300, _, none⟩) NB286_300.out _).trans (((cell_far (p := ⟨gb300, _, none⟩) NB286_300.out _).trans (((cell_far (p := ⟨gb300, _, none⟩) NB286_300.out _).trans (hHeld.2.2.2.2.2.1)))))), ((cell_far (p := ⟨gb300, _, none⟩) NB287_300.out _).trans (((cell_far (p := ⟨gb300, _, none⟩) NB287_300.out _).trans (((cell_far (p := ⟨gb300, _, none⟩) NB287_300.out _).trans (hHeld.2.2.2.2.2.2.1)))))), ((cell_far (p := ⟨gb300, _, none⟩) NB287_300.out _).trans (((cell_far (p := ⟨gb300, _, none⟩) NB287_300.out _).trans (((cell_far (p := ⟨gb300, _, none⟩) NB287_300.out _).trans (hHeld.2.2.2.2.2.2.2.1)))))), ((cell_far (p := ⟨gb300, _, none⟩) NB287_300.out _).trans (((cell_far (p := ⟨gb300, _, none⟩) NB287_300.out _).trans (((cell_far (p := ⟨gb300, _, none⟩) NB287_300.out _).trans (hHeld.2.2.2.2.2.2.2.2))))))⟩ (fun hHeld => ?_)
    clear hK K
    refine done_ (done_of HT_.out (by kernel_rfl)) ?_
    try go_wp2
    have n0_ : Aside0 ((((w24.setCell ⟨gb300, 0, none⟩ (.bool t297)).setCell ⟨gb300, 1, none⟩ (.int .i64 t298)).setCell ⟨gb300, 2, none⟩ (.int .i64 t299)).heap[gb285]? = some (.cells #[.bool a1_0, .int .i64 a1_1, .int .i64 a1_2] 27 (0, 0))) := ⟨by (with_reducible repeat (first | refine blk_drewN ?_ _ | refine blk_drew ?_ | refine blk_alloc ?_ _)); refine blk_far ?_ NB285_300.out _; (with_reducible repeat (first | refine blk_drewN ?_ _ | refine blk_drew ?_ | refine blk_alloc ?_ _)); refine blk_far ?_ NB285_300.out _; (with_reducible repeat (first | refine blk_drewN ?_ _ | refine blk_drew ?_ | refine blk_alloc ?_ _)); refine blk_far ?_ NB285_300.out _; (with_reducible repeat (first | refine blk_drewN ?_ _ | refine blk_drew ?_ | refine blk_alloc ?_ _)); exact BK285.out⟩
    have n1_ : Aside0 ((((w24.setCell ⟨gb300, 0, none⟩ (.bool t297)).setCell ⟨gb300, 1, none⟩ (.int .i64 t298)).setCell ⟨gb300, 2, none⟩ (.int .i64 t299)).heap[gb286]? = some (.cells #[.bool a2_0, .int .i64 a2_1, .int .i64 a2_2] 27 (0, 0))) := ⟨by (with_reducible repeat (first | refine blk_drewN ?_ _ | refine blk_drew ?_ | refine blk_alloc ?_ _)); refine blk_far ?_ NB286_300.out _; (with_reducible repeat (first | refine blk_drewN ?_ _ | refine blk_drew ?_ | refine blk_alloc ?_ _)); refine blk_far ?_ NB286_300.out _; (with_reducible repeat (first | refine blk_drewN ?_ _ | refine blk_drew ?_ | refine blk_alloc ?_ _)); refine blk_far ?_ NB286_300.out _; (with_reducible repeat (first | refine blk_drewN ?_ _ | refine blk_drew ?_ | refine blk_alloc ?_ _)); exact BK286.out⟩
    have n2_ : Aside0 ((((w24.setCell ⟨gb300, 0, none⟩ (.bool t297)).setCell ⟨gb300, 1, none⟩ (.int .i64 t298)).setCell ⟨gb300, 2, none⟩ (.int .i64 t299)).heap[gb287]? = some (.cells #[.bool a3_0, .int .i64 a3_1, .int .i64 a3_2] 27 (0, 0))) := ⟨by (with_reducible repeat (first | refine blk_drewN ?_ _ | refine blk_drew ?_ | refine blk_alloc ?_ _)); refine blk_far ?_ NB287_300.out _; (with_reducible repeat (first | refine blk_drewN ?_ _ | refine blk_drew ?_ | refine blk_alloc ?_ _)); refine blk_far ?_ NB287_300.out _; (with_reducible repeat (first | refine blk_drewN ?_ _ | refine blk_drew ?_ | refine blk_alloc ?_ _)); refine blk_far ?_ NB287_300.out _; (with_reducible repeat (first | refine blk_drewN ?_ _ | refine blk_drew ?_ | refine blk_alloc ?_ _)); exact BK287.out⟩
    have n3_ : Aside0 ((((w24.setCell ⟨gb300, 0, none⟩ (.bool t297)).setCell ⟨gb300, 1, none⟩ (.int .i64 t298)).setCell ⟨gb300, 2, none⟩ (.int .i64 t299)).heap[gb300]? = some (.cells #[.bool t297, .int .i64 t298, .int .i64 t299] 23 (0, 0))) := ⟨by (with_reducible repeat (first | refine blk_drewN ?_ _ | refine blk_drew ?_ | refine blk_alloc ?_ _)); refine blk_put (cs := #[.bool t297, .int .i64 t298, .int .i64 0]) ?_ 2 _ rfl; (with_reducible repeat (first | refine blk_drewN ?_ _ | refine blk_drew ?_ | refine blk_alloc ?_ _)); refine blk_put (cs := #[.bool t297, .int .i64 0, .int .i64 0]) ?_ 1 _ rfl; (with_reducible repeat (first | refine blk_drewN ?_ _ | refine blk_drew ?_ | refine blk_alloc ?_ _)); refine blk_put (cs := #[.bool false, .int .i64 0, .int .i64 0]) ?_ 0 _ rfl; (with_reducible repeat (first | refine blk_drewN ?_ _ | refine blk_drew ?_ | refine blk_alloc ?_ _)); exact BK300.out⟩
    have n4_ : Aside0 (Below w.heap.size w (((w24.setCell ⟨gb300, 0, none⟩ (.bool t297)).setCell ⟨gb300, 1, none⟩ (.int .i64 t298)).setCell ⟨gb300, 2, none⟩ (.int .i64 t299))) := ⟨by repeat (first | (with_reducible first | exact HB.out | apply below_alloc | apply pw_below_drewN | apply below_drew1 | refine below_set ?_ GE285.out | refine below_set ?_ GE286.out | refine below_set ?_ GE287.out | refine below_set ?_ GE300.out) | exact HB.out)⟩
    (try clear BK285)
    (try clear BK286)
    (try clear BK287)
    (try clear BK300)
    (try clear HB)
    generalize (((w24.setCell ⟨gb300, 0, none⟩ (.bool t297)).setCell ⟨gb300, 1, none⟩ (.int .i64 t298)).setCell ⟨gb300, 2, none⟩ (.int .i64 t299)) = w28 at n0_ n1_ n2_ n3_ n4_ ⊢
    have BK285 := n0_
    have BK286 := n1_
    have BK287 := n2_
    have BK300 := n3_
    have HB := n4_
    clear n0_ n1_ n2_ n3_ n4_
    have n0_ := Aside0.mk (blk_drew BK285.out)
    have n1_ := Aside0.mk (blk_drew BK286.out)
    have n2_ := Aside0.mk (blk_drew BK287.out)
    have n3_ := Aside0.mk (blk_drew BK300.out)
    have n4_ := Aside0.mk (below_drew1 HB.out)
    clear BK285
    clear BK286
    clear BK287
    clear BK300
    clear HB
    have BK285 := n0_
    have BK286 := n1_
    have BK287 := n2_
    have BK300 := n3_
    have HB := n4_
    clear n0_ n1_ n2_ n3_ n4_
    refine start_ (n := 10) (S := fun w' => w'.cell? ⟨gb285, 0, none⟩ = some (.bool a1_0) ∧ w'.cell? ⟨gb285, 1, none⟩ = some (.int .i64 a1_1) ∧ w'.cell? ⟨gb285, 2, none⟩ = some (.int .i64 a1_2) ∧ w'.cell? ⟨gb286, 0, none⟩ = some (.bool a2_0) ∧ w'.cell? ⟨gb286, 1, none⟩ = some (.int .i64 a2_1) ∧ w'.cell? ⟨gb286, 2, none⟩ = some (.int .i64 a2_2) ∧ w'.cell? ⟨gb287, 0, none⟩ = some (.bool a3_0) ∧ w'.cell? ⟨gb287, 1, none⟩ = some (.int .i64 a3_1) ∧ w'.cell? ⟨gb287, 2, none⟩ = some (.int .i64 a3_2)) (ds := []) #[false, false, false, false, false, false, false, false, false, false] (by kernel_rfl) rfl rfl ⟨(blk_cell BK285.out 0).trans rfl, (blk_cell BK285.out 1).trans rfl, (blk_cell BK285.out 2).trans rfl, (blk_cell BK286.out 0).trans rfl, (blk_cell BK286.out 1).trans rfl, (blk_cell BK286.out 2).trans rfl, (blk_cell BK287.out 0).trans rfl, (blk_cell BK287.out 1).trans rfl, (blk_cell BK287.out 2).trans rfl⟩ (fun hHeld => ?_); refine with_tabW laws_FnExactBackMax.tab2 laws_FnExactBackMax.bits2 (fun HT_ HW_ => ?_)
    generalize w28.drew = w29 at BK285 BK286 BK287 BK300 HB hHeld ⊢
    refine pure_ (i := 0) (N := some 19) (v := ?_) (a' := ?_) #[true, false, false, false, false, false, false, false, false, false] rfl rfl (any_of HT_.out (by kernel_rfl)) (fun _ _ _ h => h) (Or.inl ⟨by rfl, ?_⟩) ?_ ?_
    rotate_left
    · intro w'
      go_simp
      with_reducible rfl
    rotate_left
    · simp only [Act.put, List.setIfInBounds_toArray, List.set_cons_zero, List.set_cons_succ, i64_w, i32_w]
      rfl
    refine take_ (i := 1) (N := some 20) (v := ?_) (a' := ?_) #[true, true, false, false, false, false, false, false, false, false] rfl rfl (take_ofW HT_.out HW_.out (by kernel_rfl)) (fun _ _ _ h => h) (Or.inl ⟨by rfl, ?_⟩) hHeld ?_ ?_
    rotate_left
    · rintro w' ⟨s0, s1, s2, s3, s4, s5, s6, s7, s8⟩
      go_simp
      with_reducible rfl
    rotate_left
    · simp only [Act.put, List.setIfInBounds_toArray, List.set_cons_zero, List.set_cons_succ, i64_w, i32_w]
      rfl
    refine take_ (i := 3) (N := some 22) (v := ?_) (a' := ?_) #[true, true, false, true, false, false, false, false, false, false] rfl rfl (take_ofW HT_.out HW_.out (by kernel_rfl)) (fun _ _ _ h => h) (Or.inl ⟨by rfl, ?_⟩) hHeld ?_ ?_
    rotate_left
    · rintro w' ⟨s0, s1, s2, s3, s4, s5, s6, s7, s8⟩
      go_simp
      with_reducible rfl
    rotate_left
    · simp only [Act.put, List.setIfInBounds_toArray, List.set_cons_zero, List.set_cons_succ, i64_w, i32_w]
      rfl
    refine take_ (i := 5) (N := some 24) (v := ?_) (a' := ?_) #[true, true, false, true, false, true, false, false, false, false] rfl rfl (take_ofW HT_.out HW_.out (by kernel_rfl)) (fun _ _ _ h => h) (Or.inl ⟨by rfl, ?_⟩) hHeld ?_ ?_
    rotate_left
    · rintro w' ⟨s0, s1, s2, s3, s4, s5, s6, s7, s8⟩
      go_simp
      with_reducible rfl
    rotate_left
    · simp only [Act.put, List.setIfInBounds_toArray, List.set_cons_zero, List.set_cons_succ, i64_w, i32_w]
      rfl
    refine join_ (σ := Nat) 1 #[true, true, true, true, true, true, true, true, true, false] (fun s_ => [(21, .agg #[.bool t288, .int .i64 t289, .int .i64 t290]), (23, .agg #[.bool t291, .int .i64 t292, .int .i64 t293]), (25, .agg #[.bool t294, .int .i64 t295, .int .i64 t296]), (26, .agg #[.bool t310, .int .i64 t311, .int .i64 t312]), (10, .pointer (some ⟨s_, 0, none⟩))]) (fun s_ w' => (w'.cell? ⟨gb285, 0, none⟩ = some (.bool a1_0) ∧ w'.cell? ⟨gb285, 1, none⟩ = some (.int .i64 a1_1) ∧ w'.cell? ⟨gb285, 2, none⟩ = some (.int .i64 a1_2) ∧ w'.cell? ⟨gb286, 0, none⟩ = some (.bool a2_0) ∧ w'.cell? ⟨gb286, 1, none⟩ = some (.int .i64 a2_1) ∧ w'.cell? ⟨gb286, 2, none⟩ = some (.int .i64 a2_2) ∧ w'.cell? ⟨gb287, 0, none⟩ = some (.bool a3_0) ∧ w'.cell? ⟨gb287, 1, none⟩ = some (.int .i64 a3_1) ∧ w'.cell? ⟨gb287, 2, none⟩ = some (.int .i64 a3_2)) ∧ (w'.heap[gb285]? = some (.cells #[.bool a1_0, .int .i64 a1_1, .int .i64 a1_2] 27 (0, 0))) ∧ (w'.heap[gb286]? = some (.cells #[.bool a2_0, .int .i64 a2_1, .int .i64 a2_2] 27 (0, 0))) ∧ (w'.heap[gb287]? = some (.cells #[.bool a3_0, .int .i64 a3_1, .int .i64 a3_2] 27 (0, 0))) ∧ (w'.heap[gb300]? = some (.cells #[.bool t297, .int .i64 t298, .int .i64 t299] 23 (0, 0))) ∧ (w'.heap[s_]? = some (.cells #[.bool false, .int .i64 0, .int .i64 0] 23 (0, 0))) ∧ (w.heap.size ≤ s_) ∧ (w.heap.size ≤ s_) ∧ (gb285 ≠ s_) ∧ (s_ ≠ gb285) ∧ (gb286 ≠ s_) ∧ (s_ ≠ gb286) ∧ (gb287 ≠ s_) ∧ (s_ ≠ gb287) ∧ (gb300 ≠ s_) ∧ (s_ ≠ gb300) ∧ (Below w.heap.size w w')) ?_ ?_
    rotate_left
    · intro hJ2_4_6_7_8
      refine join_ (σ := Unit) 2 #[true, true, true, true, true, true, true, true, false, false] (fun s_ => [(21, .agg #[.bool t288, .int .i64 t289, .int .i64 t290]), (23, .agg #[.bool t291, .int .i64 t292, .int .i64 t293]), (25, .agg #[.bool t294, .int .i64 t295, .int .i64 t296]), (26, .agg #[.bool t310, .int .i64 t311, .int .i64 t312])]) (fun s_ w' => (w'.cell? ⟨gb285, 0, none⟩ = some (.bool a1_0) ∧ w'.cell? ⟨gb285, 1, none⟩ = some (.int .i64 a1_1) ∧ w'.cell? ⟨gb285, 2, none⟩ = some (.int .i64 a1_2) ∧ w'.cell? ⟨gb286, 0, none⟩ = some (.bool a2_0) ∧ w'.cell? ⟨gb286, 1, none⟩ = some (.int .i64 a2_1) ∧ w'.cell? ⟨gb286, 2, none⟩ = some (.int .i64 a2_2) ∧ w'.cell? ⟨gb287, 0, none⟩ = some (.bool a3_0) ∧ w'.cell? ⟨gb287, 1, none⟩ = some (.int .i64 a3_1) ∧ w'.cell? ⟨gb287, 2, none⟩ = some (.int .i64 a3_2)) ∧ (w'.heap[gb285]? = some (.cells #[.bool a1_0, .int .i64 a1_1, .int .i64 a1_2] 27 (0, 0))) ∧ (w'.heap[gb286]? = some (.cells #[.bool a2_0, .int .i64 a2_1, .int .i64 a2_2] 27 (0, 0))) ∧ (w'.heap[gb287]? = some (.cells #[.bool a3_0, .int .i64 a3_1, .int .i64 a3_2] 27 (0, 0))) ∧ (w'.heap[gb300]? = some (.cells #[.bool t297, .int .i64 t298, .int .i64 t299] 23 (0, 0))) ∧ (Below w.heap.size w w')) ?_ ?_
      rotate_left
      · intro hJ2_4_6_7
        refine join_ (σ := Nat) 2 #[true, true, true, true, true, true, true, false, true, false] (fun s_ => [(21, .agg #[.bool t288, .int .i64 t289, .int .i64 t290]), (23, .agg #[.bool t291, .int .i64 t292, .int .i64 t293]), (25, .agg #[.bool t294, .int .i64 t295, .int .i64 t296]), (10, .pointer (some ⟨s_, 0, none⟩))]) (fun s_ w' => (w'.cell? ⟨gb285, 0, none⟩ = some (.bool a1_0) ∧ w'.cell? ⟨gb285, 1, none⟩ = some (.int .i64 a1_1) ∧ w'.cell? ⟨gb285, 2, none⟩ = some (.int .i64 a1_2) ∧ w'.cell? ⟨gb286, 0, none⟩ = some (.bool a2_0) ∧ w'.cell? ⟨gb286, 1, none⟩ = some (.int .i64 a2_1) ∧ w'.cell? ⟨gb286, 2, none⟩ = some (.int .i64 a2_2) ∧ w'.cell? ⟨gb287, 0, none⟩ = some (.bool a3_0) ∧ w'.cell? ⟨gb287, 1, none⟩ = some (.int .i64 a3_1) ∧ w'.cell? ⟨gb287, 2, none⟩ = some (.int .i64 a3_2)) ∧ (w'.heap[gb285]? = some (.cells #[.bool a1_0, .int .i64 a1_1, .int .i64 a1_2] 27 (0, 0))) ∧ (w'.heap[gb286]? = some (.cells #[.bool a2_0, .int .i64 a2_1, .int .i64 a2_2] 27 (0, 0))) ∧ (w'.heap[gb287]? = some (.cells #[.bool a3_0, .int .i64 a3_1, .int .i64 a3_2] 27 (0, 0))) ∧ (w'.heap[gb300]? = some (.cells #[.bool t297, .int .i64 t298, .int .i64 t299] 23 (0, 0))) ∧ (w'.heap[s_]? = some (.cells #[.bool false, .int .i64 0, .int .i64 0] 23 (0, 0))) ∧ (w.heap.size ≤ s_) ∧ (w.heap.size ≤ s_) ∧ (gb285 ≠ s_) ∧ (s_ ≠ gb285) ∧ (gb286 ≠ s_) ∧ (s_ ≠ gb286) ∧ (gb287 ≠ s_) ∧ (s_ ≠ gb287) ∧ (gb300 ≠ s_) ∧ (s_ ≠ gb300) ∧ (Below w.heap.size w w')) ?_ ?_
        rotate_left
        · intro hJ2_4_6_8
          refine join_ (σ := Unit) 3 #[true, true, true, true, true, true, true, false, false, false] (fun s_ => [(21, .agg #[.bool t288, .int .i64 t289, .int .i64 t290]), (23, .agg #[.bool t291, .int .i64 t292, .int .i64 t293]), (25, .agg #[.bool t294, .int .i64 t295, .int .i64 t296])]) (fun s_ w' => (w'.cell? ⟨gb285, 0, none⟩ = some (.bool a1_0) ∧ w'.cell? ⟨gb285, 1, none⟩ = some (.int .i64 a1_1) ∧ w'.cell? ⟨gb285, 2, none⟩ = some (.int .i64 a1_2) ∧ w'.cell? ⟨gb286, 0, none⟩ = some (.bool a2_0) ∧ w'.cell? ⟨gb286, 1, none⟩ = some (.int .i64 a2_1) ∧ w'.cell? ⟨gb286, 2, none⟩ = some (.int .i64 a2_2) ∧ w'.cell? ⟨gb287, 0, none⟩ = some (.bool a3_0) ∧ w'.cell? ⟨gb287, 1, none⟩ = some (.int .i64 a3_1) ∧ w'.cell? ⟨gb287, 2, none⟩ = some (.int .i64 a3_2)) ∧ (w'.heap[gb285]? = some (.cells #[.bool a1_0, .int .i64 a1_1, .int .i64 a1_2] 27 (0, 0))) ∧ (w'.heap[gb286]? = some (.cells #[.bool a2_0, .int .i64 a2_1, .int .i64 a2_2] 27 (0, 0))) ∧ (w'.heap[gb287]? = some (.cells #[.bool a3_0, .int .i64 a3_1, .int .i64 a3_2] 27 (0, 0))) ∧ (w'.heap[gb300]? = some (.cells #[.bool t297, .int .i64 t298, .int .i64 t299] 23 (0, 0))) ∧ (Below w.heap.size w w')) ?_ ?_
          rotate_left
          · intro hJ2_4_6
            refine join_ (σ := Nat) 3 #[true, true, true, true, true, true, false, false, true, false] (fun s_ => [(21, .agg #[.bool t288, .int .i64 t289, .int .i64 t290]), (23, .agg #[.bool t291, .int .i64 t292, .int .i64 t293]), (10, .pointer (some ⟨s_, 0, none⟩))]) (fun s_ w' => (w'.cell? ⟨gb285, 0, none⟩ = some (.bool a1_0) ∧ w'.cell? ⟨gb285, 1, none⟩ = some (.int .i64 a1_1) ∧ w'.cell? ⟨gb285, 2, none⟩ = some (.int .i64 a1_2) ∧ w'.cell? ⟨gb286, 0, none⟩ = some (.bool a2_0) ∧ w'.cell? ⟨gb286, 1, none⟩ = some (.int .i64 a2_1) ∧ w'.cell? ⟨gb286, 2, none⟩ = some (.int .i64 a2_2) ∧ w'.cell? ⟨gb287, 0, none⟩ = some (.bool a3_0) ∧ w'.cell? ⟨gb287, 1, none⟩ = some (.int .i64 a3_1) ∧ w'.cell? ⟨gb287, 2, none⟩ = some (.int .i64 a3_2)) ∧ (w'.heap[gb285]? = some (.cells #[.bool a1_0, .int .i64 a1_1, .int .i64 a1_2] 27 (0, 0))) ∧ (w'.heap[gb286]? = some (.cells #[.bool a2_0, .int .i64 a2_1, .int .i64 a2_2] 27 (0, 0))) ∧ (w'.heap[gb287]? = some (.cells #[.bool a3_0, .int .i64 a3_1, .int .i64 a3_2] 27 (0, 0))) ∧ (w'.heap[gb300]? = some (.cells #[.bool t297, .int .i64 t298, .int .i64 t299] 23 (0, 0))) ∧ (w'.heap[s_]? = some (.cells #[.bool false, .int .i64 0, .int .i64 0] 23 (0, 0))) ∧ (w.heap.size ≤ s_) ∧ (w.heap.size ≤ s_) ∧ (gb285 ≠ s_) ∧ (s_ ≠ gb285) ∧ (gb286 ≠ s_) ∧ (s_ ≠ gb286) ∧ (gb287 ≠ s_) ∧ (s_ ≠ gb287) ∧ (gb300 ≠ s_) ∧ (s_ ≠ gb300) ∧ (Below w.heap.size w w')) ?_ ?_
            rotate_left
            · intro hJ2_4_8
              refine join_ (σ := Unit) 4 #[true, true, true, true, true, true, false, false, false, false] (fun s_ => [(21, .agg #[.bool t288, .int .i64 t289, .int .i64 t290]), (23, .agg #[.bool t291, .int .i64 t292, .int .i64 t293])]) (fun s_ w' => (w'.cell? ⟨gb285, 0, none⟩ = some (.bool a1_0) ∧ w'.cell? ⟨gb285, 1, none⟩ = some (.int .i64 a1_1) ∧ w'.cell? ⟨gb285, 2, none⟩ = some (.int .i64 a1_2) ∧ w'.cell? ⟨gb286, 0, none⟩ = some (.bool a2_0) ∧ w'.cell? ⟨gb286, 1, none⟩ = some (.int .i64 a2_1) ∧ w'.cell? ⟨gb286, 2, none⟩ = some (.int .i64 a2_2) ∧ w'.cell? ⟨gb287, 0, none⟩ = some (.bool a3_0) ∧ w'.cell? ⟨gb287, 1, none⟩ = some (.int .i64 a3_1) ∧ w'.cell? ⟨gb287, 2, none⟩ = some (.int .i64 a3_2)) ∧ (w'.heap[gb285]? = some (.cells #[.bool a1_0, .int .i64 a1_1, .int .i64 a1_2] 27 (0, 0))) ∧ (w'.heap[gb286]? = some (.cells #[.bool a2_0, .int .i64 a2_1, .int .i64 a2_2] 27 (0, 0))) ∧ (w'.heap[gb287]? = some (.cells #[.bool a3_0, .int .i64 a3_1, .int .i64 a3_2] 27 (0, 0))) ∧ (w'.heap[gb300]? = some (.cells #[.bool t297, .int .i64 t298, .int .i64 t299] 23 (0, 0))) ∧ (Below w.heap.size w w')) ?_ ?_
              rotate_left
              · intro hJ2_4
                refine join_ (σ := Nat) 4 #[true, true, true, true, false, true, false, false, true, false] (fun s_ => [(21, .agg #[.bool t288, .int .i64 t289, .int .i64 t290]), (10, .pointer (some ⟨s_, 0, none⟩))]) (fun s_ w' => (w'.cell? ⟨gb285, 0, none⟩ = some (.bool a1_0) ∧ w'.cell? ⟨gb285, 1, none⟩ = some (.int .i64 a1_1) ∧ w'.cell? ⟨gb285, 2, none⟩ = some (.int .i64 a1_2) ∧ w'.cell? ⟨gb286, 0, none⟩ = some (.bool a2_0) ∧ w'.cell? ⟨gb286, 1, none⟩ = some (.int .i64 a2_1) ∧ w'.cell? ⟨gb286, 2, none⟩ = some (.int .i64 a2_2) ∧ w'.cell? ⟨gb287, 0, none⟩ = some (.bool a3_0) ∧ w'.cell? ⟨gb287, 1, none⟩ = some (.int .i64 a3_1) ∧ w'.cell? ⟨gb287, 2, none⟩ = some (.int .i64 a3_2)) ∧ (w'.heap[gb285]? = some (.cells #[.bool a1_0, .int .i64 a1_1, .int .i64 a1_2] 27 (0, 0))) ∧ (w'.heap[gb286]? = some (.cells #[.bool a2_0, .int .i64 a2_1, .int .i64 a2_2] 27 (0, 0))) ∧ (w'.heap[gb287]? = some (.cells #[.bool a3_0, .int .i64 a3_1, .int .i64 a3_2] 27 (0, 0))) ∧ (w'.heap[gb300]? = some (.cells #[.bool t297, .int .i64 t298, .int .i64 t299] 23 (0, 0))) ∧ (w'.heap[s_]? = some (.cells #[.bool false, .int .i64 0, .int .i64 0] 23 (0, 0))) ∧ (w.heap.size ≤ s_) ∧ (w.heap.size ≤ s_) ∧ (gb285 ≠ s_) ∧ (s_ ≠ gb285) ∧ (gb286 ≠ s_) ∧ (s_ ≠ gb286) ∧ (gb287 ≠ s_) ∧ (s_ ≠ gb287) ∧ (gb300 ≠ s_) ∧ (s_ ≠ gb300) ∧ (Below w.heap.size w w')) ?_ ?_
                rotate_left
                · intro hJ2_8
                  refine join_ (σ := Unit) 5 #[true, true, true, true, false, true, false, false, false, false] (fun s_ => [(21, .agg #[.bool t288, .int .i64 t289, .int .i64 t290])]) (fun s_ w' => (w'.cell? ⟨gb285, 0, none⟩ = some (.bool a1_0) ∧ w'.cell? ⟨gb285, 1, none⟩ = some (.int .i64 a1_1) ∧ w'.cell? ⟨gb285, 2, none⟩ = some (.int .i64 a1_2) ∧ w'.cell? ⟨gb286, 0, none⟩ = some (.bool a2_0) ∧ w'.cell? ⟨gb286, 1, none⟩ = some (.int .i64 a2_1) ∧ w'.cell? ⟨gb286, 2, none⟩ = some (.int .i64 a2_2) ∧ w'.cell? ⟨gb287, 0, none⟩ = some (.bool a3_0) ∧ w'.cell? ⟨gb287, 1, none⟩ = some (.int .i64 a3_1) ∧ w'.cell? ⟨gb287, 2, none⟩ = some (.int .i64 a3_2)) ∧ (w'.heap[gb285]? = some (.cells #[.bool a1_0, .int .i64 a1_1, .int .i64 a1_2] 27 (0, 0))) ∧ (w'.heap[gb286]? = some (.cells #[.bool a2_0, .int .i64 a2_1, .int .i64 a2_2] 27 (0, 0))) ∧ (w'.heap[gb287]? = some (.cells #[.bool a3_0, .int .i64 a3_1, .int .i64 a3_2] 27 (0, 0))) ∧ (w'.heap[gb300]? = some (.cells #[.bool t297, .int .i64 t298, .int .i64 t299] 23 (0, 0))) ∧ (Below w.heap.size w w')) ?_ ?_
                  rotate_left
                  · intro hJ2
                    refine join_ (σ := Nat) 5 #[true, true, false, true, false, true, false, false, true, false] (fun s_ => [(10, .pointer (some ⟨s_, 0, none⟩))]) (fun s_ w' => (w'.cell? ⟨gb285, 0, none⟩ = some (.bool a1_0) ∧ w'.cell? ⟨gb285, 1, none⟩ = some (.int .i64 a1_1) ∧ w'.cell? ⟨gb285, 2, none⟩ = some (.int .i64 a1_2) ∧ w'.cell? ⟨gb286, 0, none⟩ = some (.bool a2_0) ∧ w'.cell? ⟨gb286, 1, none⟩ = some (.int .i64 a2_1) ∧ w'.cell? ⟨gb286, 2, none⟩ = some (.int .i64 a2_2) ∧ w'.cell? ⟨gb287, 0, none⟩ = some (.bool a3_0) ∧ w'.cell? ⟨gb287, 1, none⟩ = some (.int .i64 a3_1) ∧ w'.cell? ⟨gb287, 2, none⟩ = some (.int .i64 a3_2)) ∧ (w'.heap[gb285]? = some (.cells #[.bool a1_0, .int .i64 a1_1, .int .i64 a1_2] 27 (0, 0))) ∧ (w'.heap[gb286]? = some (.cells #[.bool a2_0, .int .i64 a2_1, .int .i64 a2_2] 27 (0, 0))) ∧ (w'.heap[gb287]? = some (.cells #[.bool a3_0, .int .i64 a3_1, .int .i64 a3_2] 27 (0, 0))) ∧ (w'.heap[gb300]? = some (.cells #[.bool t297, .int .i64 t298, .int .i64 t299] 23 (0, 0))) ∧ (w'.heap[s_]? = some (.cells #[.bool false, .int .i64 0, .int .i64 0] 23 (0, 0))) ∧ (w.heap.size ≤ s_) ∧ (w.heap.size ≤ s_) ∧ (gb285 ≠ s_) ∧ (s_ ≠ gb285) ∧ (gb286 ≠ s_) ∧ (s_ ≠ gb286) ∧ (gb287 ≠ s_) ∧ (s_ ≠ gb287) ∧ (gb300 ≠ s_) ∧ (s_ ≠ gb300) ∧ (Below w.heap.size w w')) ?_ ?_
                    rotate_left
                    · intro hJ8
                      refine two_ (i := 2) (j := 8) (Ni := some 21) (Nj := some 10) #[true, true, true, true, false, true, false, false, false, false] #[true, true, false, true, false, true, false, false, true, false] rfl rfl rfl rfl (two_of HT_.out (by kernel_rfl)) (by decide) (by decide) (fun K hK => ?_) (fun K hK => ?_)
                      · skip
                        refine goes_ Try.func19 (by kernel_rfl) rfl #[.agg #[.bool a1_0, .int .i64 a1_1, .int .i64 a1_2]] (by rfl) rfl rfl (by (try simp only [List.map_toArray, List.map_cons, List.map_nil]); first | done | rfl | (simp only [List.length_drop, List.length_take]; rfl)) ?_
                        with_reducible refine (laws_toSpan.calls a1_0 a1_1 a1_2 t288 t289 t290 _ A9.out).mono ?_
                        rintro e w30 ⟨rfl, hb⟩
                        refine ⟨_, rfl, ?_⟩
                        have n0_ := Aside0.mk (blk_below (g := gb285) (o := .cells #[.bool a1_0, .int .i64 a1_1, .int .i64 a1_2] 27 (0, 0)) (by (with_reducible repeat (first | refine blk_drewN ?_ _ | refine blk_drew ?_ | refine blk_alloc ?_ _)); exact BK285.out) hb)
                        have n1_ := Aside0.mk (blk_below (g := gb286) (o := .cells #[.bool a2_0, .int .i64 a2_1, .int .i64 a2_2] 27 (0, 0)) (by (with_reducible repeat (first | refine blk_drewN ?_ _ | refine blk_drew ?_ | refine blk_alloc ?_ _)); exact BK286.out) hb)
                        have n2_ := Aside0.mk (blk_below (g := gb287) (o := .cells #[.bool a3_0, .int .i64 a3_1, .int .i64 a3_2] 27 (0, 0)) (by (with_reducible repeat (first | refine blk_drewN ?_ _ | refine blk_drew ?_ | refine blk_alloc ?_ _)); exact BK287.out) hb)
                        have n3_ := Aside0.mk (blk_below (g := gb300) (o := .cells #[.bool t297, .int .i64 t298, .int .i64 t299] 23 (0, 0)) (by (with_reducible repeat (first | refine blk_drewN ?_ _ | refine blk_drew ?_ | refine blk_alloc ?_ _)); exact BK300.out) hb)
                        have n4_ := Aside0.mk (below_step (by repeat (first | (with_reducible first | exact HB.out | apply below_alloc | apply pw_below_drewN | apply below_drew1 | refine below_set ?_ GE285.out | refine below_set ?_ GE286.out | refine below_set ?_ GE287.out | refine below_set ?_ GE300.out) | exact HB.out)) hb)
                        clear BK285
                        clear BK286
                        clear BK287
                        clear BK300
                        clear HB
                        have BK285 := n0_
                        have BK286 := n1_
                        have BK287 := n2_
                        have BK300 := n3_
                        have HB := n4_
                        clear n0_ n1_ n2_ n3_ n4_
                        (try clear hb)
                        (try clear hb2)
                        (try clear hk)
                        (try clear hi)
                        refine hK.out _ _ ⟨(blk_cell BK285.out 0).trans rfl, (blk_cell BK285.out 1).trans rfl, (blk_cell BK285.out 2).trans rfl, (blk_cell BK286.out 0).trans rfl, (blk_cell BK286.out 1).trans rfl, (blk_cell BK286.out 2).trans rfl, (blk_cell BK287.out 0).trans rfl, (blk_cell BK287.out 1).trans rfl, (blk_cell BK287.out 2).trans rfl⟩ (fun hHeld => ?_)
                        clear hK K
                        refine norm_ (a' := ?_) ?_ ?_
                        rotate_left
                        · show Act.put _ (some 21) _ = _
                          simp only [Act.put, List.setIfInBounds_toArray, List.set_cons_zero, List.set_cons_succ, i64_w, i32_w]
                          rfl
                        exact norm_ (by first | (simp only [putAll, Act.put, List.setIfInBounds_toArray, List.set_cons_zero, List.set_cons_succ]; done) | (simp only [putAll, Act.put, List.setIfInBounds_toArray, List.set_cons_zero, List.set_cons_succ]; rfl)) (hJ2 () _ ⟨hHeld, (by (with_reducible repeat (first | refine blk_drewN ?_ _ | refine blk_drew ?_ | refine blk_alloc ?_ _)); exact BK285.out), (by (with_reducible repeat (first | refine blk_drewN ?_ _ | refine blk_drew ?_ | refine blk_alloc ?_ _)); exact BK286.out), (by (with_reducible repeat (first | refine blk_drewN ?_ _ | refine blk_drew ?_ | refine blk_alloc ?_ _)); exact BK287.out), (by (with_reducible repeat (first | refine blk_drewN ?_ _ | refine blk_drew ?_ | refine blk_alloc ?_ _)); exact BK300.out), (by repeat (first | (with_reducible first | exact HB.out | apply below_alloc | apply pw_below_drewN | apply below_drew1 | refine below_set ?_ GE285.out | refine below_set ?_ GE286.out | refine below_set ?_ GE287.out | refine below_set ?_ GE300.out) | exact HB.out))⟩)
                      · skip
                        refine box_step ?hg (N := 10) ?hd (cs := #[.bool false, .int .i64 0, .int .i64 0]) (t := 23) ?hr ?_; (case hd => rfl); (case hg => rfl); (case hr => first | (go_simp; done) | (go_simp; rfl))
                        intro gb313 hg w30 hbox hb
                        have n0_ := Aside0.mk (blk_below (g := gb285) (o := .cells #[.bool a1_0, .int .i64 a1_1, .int .i64 a1_2] 27 (0, 0)) (by (with_reducible repeat (first | refine blk_drewN ?_ _ | refine blk_drew ?_ | refine blk_alloc ?_ _)); exact BK285.out) hb)
                        have n1_ := Aside0.mk (blk_below (g := gb286) (o := .cells #[.bool a2_0, .int .i64 a2_1, .int .i64 a2_2] 27 (0, 0)) (by (with_reducible repeat (first | refine blk_drewN ?_ _ | refine blk_drew ?_ | refine blk_alloc ?_ _)); exact BK286.out) hb)
                        have n2_ := Aside0.mk (blk_below (g := gb287) (o := .cells #[.bool a3_0, .int .i64 a3_1, .int .i64 a3_2] 27 (0, 0)) (by (with_reducible repeat (first | refine blk_drewN ?_ _ | refine blk_drew ?_ | refine blk_alloc ?_ _)); exact BK287.out) hb)
                        have n3_ := Aside0.mk (blk_below (g := gb300) (o := .cells #[.bool t297, .int .i64 t298, .int .i64 t299] 23 (0, 0)) (by (with_reducible repeat (first | refine blk_drewN ?_ _ | refine blk_drew ?_ | refine blk_alloc ?_ _)); exact BK300.out) hb)
                        have n4_ := Aside0.mk (below_step (by repeat (first | (with_reducible first | exact HB.out | apply below_alloc | apply pw_below_drewN | apply below_drew1 | refine below_set ?_ GE285.out | refine below_set ?_ GE286.out | refine below_set ?_ GE287.out | refine below_set ?_ GE300.out) | exact HB.out)) hb)
                        have n5_ := Aside0.mk (hbox)
                        have n6_ := Aside0.mk ((by rw [hg]; exact (below_size (by repeat (first | (with_reducible first | exact HB.out | apply below_alloc | apply pw_below_drewN | apply below_drew1 | refine below_set ?_ GE285.out | refine below_set ?_ GE286.out | refine below_set ?_ GE287.out | refine below_set ?_ GE300.out) | exact HB.out))) : w.heap.size ≤ gb313))
                        have n7_ := Aside0.mk ((by rw [hg]; exact (below_size (by repeat (first | (with_reducible first | exact HB.out | apply below_alloc | apply pw_below_drewN | apply below_drew1 | refine below_set ?_ GE285.out | refine below_set ?_ GE286.out | refine below_set ?_ GE287.out | refine below_set ?_ GE300.out) | exact HB.out))) : w.heap.size ≤ gb313))
                        have n8_ := Aside0.mk ((by rw [hg]; exact Nat.ne_of_lt (blk_lt (g := gb285) (o := .cells #[.bool a1_0, .int .i64 a1_1, .int .i64 a1_2] 27 (0, 0)) (by (with_reducible repeat (first | refine blk_drewN ?_ _ | refine blk_drew ?_ | refine blk_alloc ?_ _)); exact BK285.out)) : gb285 ≠ gb313))
                        have n9_ := Aside0.mk ((by rw [hg]; exact Nat.ne_of_gt (blk_lt (g := gb285) (o := .cells #[.bool a1_0, .int .i64 a1_1, .int .i64 a1_2] 27 (0, 0)) (by (with_reducible repeat (first | refine blk_drewN ?_ _ | refine blk_drew ?_ | refine blk_alloc ?_ _)); exact BK285.out)) : gb313 ≠ gb285))
                        have n10_ := Aside0.mk ((by rw [hg]; exact Nat.ne_of_lt (blk_lt (g := gb286) (o := .cells #[.bool a2_0, .int .i64 a2_1, .int .i64 a2_2] 27 (0, 0)) (by (with_reducible repeat (first | refine blk_drewN ?_ _ | refine blk_drew ?_ | refine blk_alloc ?_ _)); exact BK286.out)) : gb286 ≠ gb313))
                        have n11_ := Aside0.mk ((by rw [hg]; exact Nat.ne_of_gt (blk_lt (g := gb286) (o := .cells #[.bool a2_0, .int .i64 a2_1, .int .i64 a2_2] 27 (0, 0)) (by (with_reducible repeat (first | refine blk_drewN ?_ _ | refine blk_drew ?_ | refine blk_alloc ?_ _)); exact BK286.out)) : gb313 ≠ gb286))
                        have n12_ := Aside0.mk ((by rw [hg]; exact Nat.ne_of_lt (blk_lt (g := gb287) (o := .cells #[.bool a3_0, .int .i64 a3_1, .int .i64 a3_2] 27 (0, 0)) (by (with_reducible repeat (first | refine blk_drewN ?_ _ | refine blk_drew ?_ | refine blk_alloc ?_ _)); exact BK287.out)) : gb287 ≠ gb313))
                        have n13_ := Aside0.mk ((by rw [hg]; exact Nat.ne_of_gt (blk_lt (g := gb287) (o := .cells #[.bool a3_0, .int .i64 a3_1, .int .i64 a3_2] 27 (0, 0)) (by (with_reducible repeat (first | refine blk_drewN ?_ _ | refine blk_drew ?_ | refine blk_alloc ?_ _)); exact BK287.out)) : gb313 ≠ gb287))
                        have n14_ := Aside0.mk ((by rw [hg]; exact Nat.ne_of_lt (blk_lt (g := gb300) (o := .cells #[.bool t297, .int .i64 t298, .int .i64 t299] 23 (0, 0)) (by (with_reducible repeat (first | refine blk_drewN ?_ _ | refine blk_drew ?_ | refine blk_alloc ?_ _)); exact BK300.out)) : gb300 ≠ gb313))
                        have n15_ := Aside0.mk ((by rw [hg]; exact Nat.ne_of_gt (blk_lt (g := gb300) (o := .cells #[.bool t297, .int .i64 t298, .int .i64 t299] 23 (0, 0)) (by (with_reducible repeat (first | refine blk_drewN ?_ _ | refine blk_drew ?_ | refine blk_alloc ?_ _)); exact BK300.out)) : gb313 ≠ gb300))
                        clear BK285
                        clear BK286
                        clear BK287
                        clear BK300
                        clear HB
                        have BK285 := n0_
                        have BK286 := n1_
                        have BK287 := n2_
                        have BK300 := n3_
                        have HB := n4_
                        have BK313 := n5_
                        have GW313 := n6_
                        have GE313 := n7_
                        have NB285_313 := n8_
                        have NB313_285 := n9_
                        have NB286_313 := n10_
                        have NB313_286 := n11_
                        have NB287_313 := n12_
                        have NB313_287 := n13_
                        have NB300_313 := n14_
                        have NB313_300 := n15_
                        clear n0_ n1_ n2_ n3_ n4_ n5_ n6_ n7_ n8_ n9_ n10_ n11_ n12_ n13_ n14_ n15_
                        clear hb hbox hg
                        refine hK.out _ _ ⟨(blk_cell BK285.out 0).trans rfl, (blk_cell BK285.out 1).trans rfl, (blk_cell BK285.out 2).trans rfl, (blk_cell BK286.out 0).trans rfl, (blk_cell BK286.out 1).trans rfl, (blk_cell BK286.out 2).trans rfl, (blk_cell BK287.out 0).trans rfl, (blk_cell BK287.out 1).trans rfl, (blk_cell BK287.out 2).trans rfl⟩ (fun hHeld => ?_)
                        clear hK K
                        refine norm_ (a' := ?_) ?_ ?_
                        rotate_left
                        · show Act.put _ (some 10) _ = _
                          simp only [Act.put, List.setIfInBounds_toArray, List.set_cons_zero, List.set_cons_succ, i64_w, i32_w]
                          rfl
                        exact norm_ (by first | (simp only [putAll, Act.put, List.setIfInBounds_toArray, List.set_cons_zero, List.set_cons_succ]; done) | (simp only [putAll, Act.put, List.setIfInBounds_toArray, List.set_cons_zero, List.set_cons_succ]; rfl)) (hJ8 (gb313) _ ⟨hHeld, (by (with_reducible repeat (first | refine blk_drewN ?_ _ | refine blk_drew ?_ | refine blk_alloc ?_ _)); exact BK285.out), (by (with_reducible repeat (first | refine blk_drewN ?_ _ | refine blk_drew ?_ | refine blk_alloc ?_ _)); exact BK286.out), (by (with_reducible repeat (first | refine blk_drewN ?_ _ | refine blk_drew ?_ | refine blk_alloc ?_ _)); exact BK287.out), (by (with_reducible repeat (first | refine blk_drewN ?_ _ | refine blk_drew ?_ | refine blk_alloc ?_ _)); exact BK300.out), (by (with_reducible repeat (first | refine blk_drewN ?_ _ | refine blk_drew ?_ | refine blk_alloc ?_ _)); exact BK313.out), GW313.out, GE313.out, NB285_313.out, NB313_285.out, NB286_313.out, NB313_286.out, NB287_313.out, NB313_287.out, NB300_313.out, NB313_300.out, (by repeat (first | (with_reducible first | exact HB.out | apply below_alloc | apply pw_below_drewN | apply below_drew1 | refine below_set ?_ GE285.out | refine below_set ?_ GE286.out | refine below_set ?_ GE287.out | refine below_set ?_ GE300.out | refine below_set ?_ GE313.out) | exact HB.out))⟩)
                    · skip
                      rintro gb313 w31 ⟨hS_, h0_, h1_, h2_, h3_, h4_, h5_, h6_, h7_, h8_, h9_, h10_, h11_, h12_, h13_, h14_, h15_⟩
                      have n0_ : Aside0 (w31.heap[gb285]? = some (.cells #[.bool a1_0, .int .i64 a1_1, .int .i64 a1_2] 27 (0, 0))) := ⟨h0_⟩
                      have n1_ : Aside0 (w31.heap[gb286]? = some (.cells #[.bool a2_0, .int .i64 a2_1, .int .i64 a2_2] 27 (0, 0))) := ⟨h1_⟩
                      have n2_ : Aside0 (w31.heap[gb287]? = some (.cells #[.bool a3_0, .int .i64 a3_1, .int .i64 a3_2] 27 (0, 0))) := ⟨h2_⟩
                      have n3_ : Aside0 (w31.heap[gb300]? = some (.cells #[.bool t297, .int .i64 t298, .int .i64 t299] 23 (0, 0))) := ⟨h3_⟩
                      have n4_ : Aside0 (w31.heap[gb313]? = some (.cells #[.bool false, .int .i64 0, .int .i64 0] 23 (0, 0))) := ⟨h4_⟩
                      have n5_ : Aside0 (w.heap.size ≤ gb313) := ⟨h5_⟩
                      have n6_ : Aside0 (w.heap.size ≤ gb313) := ⟨h6_⟩
                      have n7_ : Aside0 (gb285 ≠ gb313) := ⟨h7_⟩
                      have n8_ : Aside0 (gb313 ≠ gb285) := ⟨h8_⟩
                      have n9_ : Aside0 (gb286 ≠ gb313) := ⟨h9_⟩
                      have n10_ : Aside0 (gb313 ≠ gb286) := ⟨h10_⟩
                      have n11_ : Aside0 (gb287 ≠ gb313) := ⟨h11_⟩
                      have n12_ : Aside0 (gb313 ≠ gb287) := ⟨h12_⟩
                      have n13_ : Aside0 (gb300 ≠ gb313) := ⟨h13_⟩
                      have n14_ : Aside0 (gb313 ≠ gb300) := ⟨h14_⟩
                      have n15_ : Aside0 (Below w.heap.size w w31) := ⟨h15_⟩
                      clear BK285
                      clear BK286
                      clear BK287
                      clear BK300
                      clear HB
                      clear h0_ h1_ h2_ h3_ h4_ h5_ h6_ h7_ h8_ h9_ h10_ h11_ h12_ h13_ h14_ h15_
                      have BK285 := n0_
                      have BK286 := n1_
                      have BK287 := n2_
                      have BK300 := n3_
                      have BK313 := n4_
                      have GW313 := n5_
                      have GE313 := n6_
                      have NB285_313 := n7_
                      have NB313_285 := n8_
                      have NB286_313 := n9_
                      have NB313_286 := n10_
                      have NB287_313 := n11_
                      have NB313_287 := n12_
                      have NB300_313 := n13_
                      have NB313_300 := n14_
                      have HB := n15_
                      clear n0_ n1_ n2_ n3_ n4_ n5_ n6_ n7_ n8_ n9_ n10_ n11_ n12_ n13_ n14_ n15_
                      have hHeld : w31.cell? ⟨gb285, 0, none⟩ = some (.bool a1_0) ∧ w31.cell? ⟨gb285, 1, none⟩ = some (.int .i64 a1_1) ∧ w31.cell? ⟨gb285, 2, none⟩ = some (.int .i64 a1_2) ∧ w31.cell? ⟨gb286, 0, none⟩ = some (.bool a2_0) ∧ w31.cell? ⟨gb286, 1, none⟩ = some (.int .i64 a2_1) ∧ w31.cell? ⟨gb286, 2, none⟩ = some (.int .i64 a2_2) ∧ w31.cell? ⟨gb287, 0, none⟩ = some (.bool a3_0) ∧ w31.cell? ⟨gb287, 1, none⟩ = some (.int .i64 a3_1) ∧ w31.cell? ⟨gb287, 2, none⟩ = some (.int .i64 a3_2) := hS_
                      refine norm_ (a' := ?_) ?_ ?_
                      rotate_left
                      · simp only [putAll, Act.put, List.setIfInBounds_toArray, List.set_cons_zero, List.set_cons_succ]
                        rfl
                      refine one_ (i := 2) (N := some 21) #[true, true, true, true, false, true, false, false, true, false] rfl rfl (one_of HT_.out (by kernel_rfl)) (by decide) (fun K hK => ?_)
                      refine goes_ Try.func19 (by kernel_rfl) rfl #[.agg #[.bool a1_0, .int .i64 a1_1, .int .i64 a1_2]] (by rfl) rfl rfl (by (try simp only [List.map_toArray, List.map_cons, List.map_nil]); first | done | rfl | (simp only [List.length_drop, List.length_take]; rfl)) ?_
                      with_reducible refine (laws_toSpan.calls a1_0 a1_1 a1_2 t288 t289 t290 _ A9.out).mono ?_
                      rintro e w32 ⟨rfl, hb⟩
                      refine ⟨_, rfl, ?_⟩
                      have n0_ := Aside0.mk (blk_below (g := gb285) (o := .cells #[.bool a1_0, .int .i64 a1_1, .int .i64 a1_2] 27 (0, 0)) (by (with_reducible repeat (first | refine blk_drewN ?_ _ | refine blk_drew ?_ | refine blk_alloc ?_ _)); exact BK285.out) hb)
                      have n1_ := Aside0.mk (blk_below (g := gb286) (o := .cells #[.bool a2_0, .int .i64 a2_1, .int .i64 a2_2] 27 (0, 0)) (by (with_reducible repeat (first | refine blk_drewN ?_ _ | refine blk_drew ?_ | refine blk_alloc ?_ _)); exact BK286.out) hb)
                      have n2_ := Aside0.mk (blk_below (g := gb287) (o := .cells #[.bool a3_0, .int .i64 a3_1, .int .i64 a3_2] 27 (0, 0)) (by (with_reducible repeat (first | refine blk_drewN ?_ _ | refine blk_drew ?_ | refine blk_alloc ?_ _)); exact BK287.out) hb)
                      have n3_ := Aside0.mk (blk_below (g := gb300) (o := .cells #[.bool t297, .int .i64 t298, .int .i64 t299] 23 (0, 0)) (by (with_reducible repeat (first | refine blk_drewN ?_ _ | refine blk_drew ?_ | refine blk_alloc ?_ _)); exact BK300.out) hb)
                      have n4_ := Aside0.mk (blk_below (g := gb313) (o := .cells #[.bool false, .int .i64 0, .int .i64 0] 23 (0, 0)) (by (with_reducible repeat (first | refine blk_drewN ?_ _ | refine blk_drew ?_ | refine blk_alloc ?_ _)); exact BK313.out) hb)
                      have n5_ := Aside0.mk (below_step (by repeat (first | (with_reducible first | exact HB.out | apply below_alloc | apply pw_below_drewN | apply below_drew1 | refine below_set ?_ GE285.out | refine below_set ?_ GE286.out | refine below_set ?_ GE287.out | refine below_set ?_ GE300.out | refine below_set ?_ GE313.out) | exact HB.out)) hb)
                      clear BK285
                      clear BK286
                      clear BK287
                      clear BK300
                      clear BK313
                      clear HB
                      have BK285 := n0_
                      have BK286 := n1_
                      have BK287 := n2_
                      have BK300 := n3_
                      have BK313 := n4_
                      have HB := n5_
                      clear n0_ n1_ n2_ n3_ n4_ n5_
                      (try clear hb)
                      (try clear hb2)
                      (try clear hk)
                      (try clear hi)
                      refine hK.out _ _ ⟨(blk_cell BK285.out 0).trans rfl, (blk_cell BK285.out 1).trans rfl, (blk_cell BK285.out 2).trans rfl, (blk_cell BK286.out 0).trans rfl, (blk_cell BK286.out 1).trans rfl, (blk_cell BK286.out 2).trans rfl, (blk_cell BK287.out 0).trans rfl, (blk_cell BK287.out 1).trans rfl, (blk_cell BK287.out 2).trans rfl⟩ (fun hHeld => ?_)
                      clear hK K
                      refine norm_ (a' := ?_) ?_ ?_
                      rotate_left
                      · show Act.put _ (some 21) _ = _
                        simp only [Act.put, List.setIfInBounds_toArray, List.set_cons_zero, List.set_cons_succ, i64_w, i32_w]
                        rfl
                      exact norm_ (by first | (simp only [putAll, Act.put, List.setIfInBounds_toArray, List.set_cons_zero, List.set_cons_succ]; done) | (simp only [putAll, Act.put, List.setIfInBounds_toArray, List.set_cons_zero, List.set_cons_succ]; rfl)) (hJ2_8 (gb313) _ ⟨hHeld, (by (with_reducible repeat (first | refine blk_drewN ?_ _ | refine blk_drew ?_ | refine blk_alloc ?_ _)); exact BK285.out), (by (with_reducible repeat (first | refine blk_drewN ?_ _ | refine blk_drew ?_ | refine blk_alloc ?_ _)); exact BK286.out), (by (with_reducible repeat (first | refine blk_drewN ?_ _ | refine blk_drew ?_ | refine blk_alloc ?_ _)); exact BK287.out), (by (with_reducible repeat (first | refine blk_drewN ?_ _ | refine blk_drew ?_ | refine blk_alloc ?_ _)); exact BK300.out), (by (with_reducible repeat (first | refine blk_drewN ?_ _ | refine blk_drew ?_ | refine blk_alloc ?_ _)); exact BK313.out), GW313.out, GE313.out, NB285_313.out, NB313_285.out, NB286_313.out, NB313_286.out, NB287_313.out, NB313_287.out, NB300_313.out, NB313_300.out, (by repeat (first | (with_reducible first | exact HB.out | apply below_alloc | apply pw_below_drewN | apply below_drew1 | refine below_set ?_ GE285.out | refine below_set ?_ GE286.out | refine below_set ?_ GE287.out | refine below_set ?_ GE300.out | refine below_set ?_ GE313.out) | exact HB.out))⟩)
                  · skip
                    rintro _ w31 ⟨hS_, h0_, h1_, h2_, h3_, h4_⟩
                    have n0_ : Aside0 (w31.heap[gb285]? = some (.cells #[.bool a1_0, .int .i64 a1_1, .int .i64 a1_2] 27 (0, 0))) := ⟨h0_⟩
                    have n1_ : Aside0 (w31.heap[gb286]? = some (.cells #[.bool a2_0, .int .i64 a2_1, .int .i64 a2_2] 27 (0, 0))) := ⟨h1_⟩
                    have n2_ : Aside0 (w31.heap[gb287]? = some (.cells #[.bool a3_0, .int .i64 a3_1, .int .i64 a3_2] 27 (0, 0))) := ⟨h2_⟩
                    have n3_ : Aside0 (w31.heap[gb300]? = some (.cells #[.bool t297, .int .i64 t298, .int .i64 t299] 23 (0, 0))) := ⟨h3_⟩
                    have n4_ : Aside0 (Below w.heap.size w w31) := ⟨h4_⟩
                    clear BK285
                    clear BK286
                    clear BK287
                    clear BK300
                    clear HB
                    clear h0_ h1_ h2_ h3_ h4_
                    have BK285 := n0_
                    have BK286 := n1_
                    have BK287 := n2_
                    have BK300 := n3_
                    have HB := n4_
                    clear n0_ n1_ n2_ n3_ n4_
                    have hHeld : w31.cell? ⟨gb285, 0, none⟩ = some (.bool a1_0) ∧ w31.cell? ⟨gb285, 1, none⟩ = some (.int .i64 a1_1) ∧ w31.cell? ⟨gb285, 2, none⟩ = some (.int .i64 a1_2) ∧ w31.cell? ⟨gb286, 0, none⟩ = some (.bool a2_0) ∧ w31.cell? ⟨gb286, 1, none⟩ = some (.int .i64 a2_1) ∧ w31.cell? ⟨gb286, 2, none⟩ = some (.int .i64 a2_2) ∧ w31.cell? ⟨gb287, 0, none⟩ = some (.bool a3_0) ∧ w31.cell? ⟨gb287, 1, none⟩ = some (.int .i64 a3_1) ∧ w31.cell? ⟨gb287, 2, none⟩ = some (.int .i64 a3_2) := hS_
                    refine norm_ (a' := ?_) ?_ ?_
                    rotate_left
                    · simp only [putAll, Act.put, List.setIfInBounds_toArray, List.set_cons_zero, List.set_cons_succ]
                      rfl
                    refine two_ (i := 4) (j := 8) (Ni := some 23) (Nj := some 10) #[true, true, true, true, true, true, false, false, false, false] #[true, true, true, true, false, true, false, false, true, false] rfl rfl rfl rfl (two_of HT_.out (by kernel_rfl)) (by decide) (by decide) (fun K hK => ?_) (fun K hK => ?_)
                    · skip
                      refine goes_ Try.func19 (by kernel_rfl) rfl #[.agg #[.bool a2_0, .int .i64 a2_1, .int .i64 a2_2]] (by rfl) rfl rfl (by (try simp only [List.map_toArray, List.map_cons, List.map_nil]); first | done | rfl | (simp only [List.length_drop, List.length_take]; rfl)) ?_
                      with_reducible refine (laws_toSpan.calls a2_0 a2_1 a2_2 t291 t292 t293 _ A10.out).mono ?_
                      rintro e w32 ⟨rfl, hb⟩
                      refine ⟨_, rfl, ?_⟩
                      have n0_ := Aside0.mk (blk_below (g := gb285) (o := .cells #[.bool a1_0, .int .i64 a1_1, .int .i64 a1_2] 27 (0, 0)) (by (with_reducible repeat (first | refine blk_drewN ?_ _ | refine blk_drew ?_ | refine blk_alloc ?_ _)); exact BK285.out) hb)
                      have n1_ := Aside0.mk (blk_below (g := gb286) (o := .cells #[.bool a2_0, .int .i64 a2_1, .int .i64 a2_2] 27 (0, 0)) (by (with_reducible repeat (first | refine blk_drewN ?_ _ | refine blk_drew ?_ | refine blk_alloc ?_ _)); exact BK286.out) hb)
                      have n2_ := Aside0.mk (blk_below (g := gb287) (o := .cells #[.bool a3_0, .int .i64 a3_1, .int .i64 a3_2] 27 (0, 0)) (by (with_reducible repeat (first | refine blk_drewN ?_ _ | refine blk_drew ?_ | refine blk_alloc ?_ _)); exact BK287.out) hb)
                      have n3_ := Aside0.mk (blk_below (g := gb300) (o := .cells #[.bool t297, .int .i64 t298, .int .i64 t299] 23 (0, 0)) (by (with_reducible repeat (first | refine blk_drewN ?_ _ | refine blk_drew ?_ | refine blk_alloc ?_ _)); exact BK300.out) hb)
                      have n4_ := Aside0.mk (below_step (by repeat (first | (with_reducible first | exact HB.out | apply below_alloc | apply pw_below_drewN | apply below_drew1 | refine below_set ?_ GE285.out | refine below_set ?_ GE286.out | refine below_set ?_ GE287.out | refine below_set ?_ GE300.out) | exact HB.out)) hb)
                      clear BK285
                      clear BK286
                      clear BK287
                      clear BK300
                      clear HB
                      have BK285 := n0_
                      have BK286 := n1_
                      have BK287 := n2_
                      have BK300 := n3_
                      have HB := n4_
                      clear n0_ n1_ n2_ n3_ n4_
                      (try clear hb)
                      (try clear hb2)
                      (try clear hk)
                      (try clear hi)
                      refine hK.out _ _ ⟨(blk_cell BK285.out 0).trans rfl, (blk_cell BK285.out 1).trans rfl, (blk_cell BK285.out 2).trans rfl, (blk_cell BK286.out 0).trans rfl, (blk_cell BK286.out 1).trans rfl, (blk_cell BK286.out 2).trans rfl, (blk_cell BK287.out 0).trans rfl, (blk_cell BK287.out 1).trans rfl, (blk_cell BK287.out 2).trans rfl⟩ (fun hHeld => ?_)
                      clear hK K
                      refine norm_ (a' := ?_) ?_ ?_
                      rotate_left
                      · show Act.put _ (some 23) _ = _
                        simp only [Act.put, List.setIfInBounds_toArray, List.set_cons_zero, List.set_cons_succ, i64_w, i32_w]
                        rfl
                      exact norm_ (by first | (simp only [putAll, Act.put, List.setIfInBounds_toArray, List.set_cons_zero, List.set_cons_succ]; done) | (simp only [putAll, Act.put, List.setIfInBounds_toArray, List.set_cons_zero, List.set_cons_succ]; rfl)) (hJ2_4 () _ ⟨hHeld, (by (with_reducible repeat (first | refine blk_drewN ?_ _ | refine blk_drew ?_ | refine blk_alloc ?_ _)); exact BK285.out), (by (with_reducible repeat (first | refine blk_drewN ?_ _ | refine blk_drew ?_ | refine blk_alloc ?_ _)); exact BK286.out), (by (with_reducible repeat (first | refine blk_drewN ?_ _ | refine blk_drew ?_ | refine blk_alloc ?_ _)); exact BK287.out), (by (with_reducible repeat (first | refine blk_drewN ?_ _ | refine blk_drew ?_ | refine blk_alloc ?_ _)); exact BK300.out), (by repeat (first | (with_reducible first | exact HB.out | apply below_alloc | apply pw_below_drewN | apply below_drew1 | refine below_set ?_ GE285.out | refine below_set ?_ GE286.out | refine below_set ?_ GE287.out | refine below_set ?_ GE300.out) | exact HB.out))⟩)
                    · skip
                      refine box_step ?hg (N := 10) ?hd (cs := #[.bool false, .int .i64 0, .int .i64 0]) (t := 23) ?hr ?_; (case hd => rfl); (case hg => rfl); (case hr => first | (go_simp; done) | (go_simp; rfl))
                      intro gb313 hg w32 hbox hb
                      have n0_ := Aside0.mk (blk_below (g := gb285) (o := .cells #[.bool a1_0, .int .i64 a1_1, .int .i64 a1_2] 27 (0, 0)) (by (with_reducible repeat (first | refine blk_drewN ?_ _ | refine blk_drew ?_ | refine blk_alloc ?_ _)); exact BK285.out) hb)
                      have n1_ := Aside0.mk (blk_below (g := gb286) (o := .cells #[.bool a2_0, .int .i64 a2_1, .int .i64 a2_2] 27 (0, 0)) (by (with_reducible repeat (first | refine blk_drewN ?_ _ | refine blk_drew ?_ | refine blk_alloc ?_ _)); exact BK286.out) hb)
                      have n2_ := Aside0.mk (blk_below (g := gb287) (o := .cells #[.bool a3_0, .int .i64 a3_1, .int .i64 a3_2] 27 (0, 0)) (by (with_reducible repeat (first | refine blk_drewN ?_ _ | refine blk_drew ?_ | refine blk_alloc ?_ _)); exact BK287.out) hb)
                      have n3_ := Aside0.mk (blk_below (g := gb300) (o := .cells #[.bool t297, .int .i64 t298, .int .i64 t299] 23 (0, 0)) (by (with_reducible repeat (first | refine blk_drewN ?_ _ | refine blk_drew ?_ | refine blk_alloc ?_ _)); exact BK300.out) hb)
                      have n4_ := Aside0.mk (below_step (by repeat (first | (with_reducible first | exact HB.out | apply below_alloc | apply pw_below_drewN | apply below_drew1 | refine below_set ?_ GE285.out | refine below_set ?_ GE286.out | refine below_set ?_ GE287.out | refine below_set ?_ GE300.out) | exact HB.out)) hb)
                      have n5_ := Aside0.mk (hbox)
                      have n6_ := Aside0.mk ((by rw [hg]; exact (below_size (by repeat (first | (with_reducible first | exact HB.out | apply below_alloc | apply pw_below_drewN | apply below_drew1 | refine below_set ?_ GE285.out | refine below_set ?_ GE286.out | refine below_set ?_ GE287.out | refine below_set ?_ GE300.out) | exact HB.out))) : w.heap.size ≤ gb313))
                      have n7_ := Aside0.mk ((by rw [hg]; exact (below_size (by repeat (first | (with_reducible first | exact HB.out | apply below_alloc | apply pw_below_drewN | apply below_drew1 | refine below_set ?_ GE285.out | refine below_set ?_ GE286.out | refine below_set ?_ GE287.out | refine below_set ?_ GE300.out) | exact HB.out))) : w.heap.size ≤ gb313))
                      have n8_ := Aside0.mk ((by rw [hg]; exact Nat.ne_of_lt (blk_lt (g := gb285) (o := .cells #[.bool a1_0, .int .i64 a1_1, .int .i64 a1_2] 27 (0, 0)) (by (with_reducible repeat (first | refine blk_drewN ?_ _ | refine blk_drew ?_ | refine blk_alloc ?_ _)); exact BK285.out)) : gb285 ≠ gb313))
                      have n9_ := Aside0.mk ((by rw [hg]; exact Nat.ne_of_gt (blk_lt (g := gb285) (o := .cells #[.bool a1_0, .int .i64 a1_1, .int .i64 a1_2] 27 (0, 0)) (by (with_reducible repeat (first | refine blk_drewN ?_ _ | refine blk_drew ?_ | refine blk_alloc ?_ _)); exact BK285.out)) : gb313 ≠ gb285))
                      have n10_ := Aside0.mk ((by rw [hg]; exact Nat.ne_of_lt (blk_lt (g := gb286) (o := .cells #[.bool a2_0, .int .i64 a2_1, .int .i64 a2_2] 27 (0, 0)) (by (with_reducible repeat (first | refine blk_drewN ?_ _ | refine blk_drew ?_ | refine blk_alloc ?_ _)); exact BK286.out)) : gb286 ≠ gb313))
                      have n11_ := Aside0.mk ((by rw [hg]; exact Nat.ne_of_gt (blk_lt (g := gb286) (o := .cells #[.bool a2_0, .int .i64 a2_1, .int .i64 a2_2] 27 (0, 0)) (by (with_reducible repeat (first | refine blk_drewN ?_ _ | refine blk_drew ?_ | refine blk_alloc ?_ _)); exact BK286.out)) : gb313 ≠ gb286))
                      have n12_ := Aside0.mk ((by rw [hg]; exact Nat.ne_of_lt (blk_lt (g := gb287) (o := .cells #[.bool a3_0, .int .i64 a3_1, .int .i64 a3_2] 27 (0, 0)) (by (with_reducible repeat (first | refine blk_drewN ?_ _ | refine blk_drew ?_ | refine blk_alloc ?_ _)); exact BK287.out)) : gb287 ≠ gb313))
                      have n13_ := Aside0.mk ((by rw [hg]; exact Nat.ne_of_gt (blk_lt (g := gb287) (o := .cells #[.bool a3_0, .int .i64 a3_1, .int .i64 a3_2] 27 (0, 0)) (by (with_reducible repeat (first | refine blk_drewN ?_ _ | refine blk_drew ?_ | refine blk_alloc ?_ _)); exact BK287.out)) : gb313 ≠ gb287))
                      have n14_ := Aside0.mk ((by rw [hg]; exact Nat.ne_of_lt (blk_lt (g := gb300) (o := .cells #[.bool t297, .int .i64 t298, .int .i64 t299] 23 (0, 0)) (by (with_reducible repeat (first | refine blk_drewN ?_ _ | refine blk_drew ?_ | refine blk_alloc ?_ _)); exact BK300.out)) : gb300 ≠ gb313))
                      have n15_ := Aside0.mk ((by rw [hg]; exact Nat.ne_of_gt (blk_lt (g := gb300) (o := .cells #[.bool t297, .int .i64 t298, .int .i64 t299] 23 (0, 0)) (by (with_reducible repeat (first | refine blk_drewN ?_ _ | refine blk_drew ?_ | refine blk_alloc ?_ _)); exact BK300.out)) : gb313 ≠ gb300))
                      clear BK285
                      clear BK286
                      clear BK287
                      clear BK300
                      clear HB
                      have BK285 := n0_
                      have BK286 := n1_
                      have BK287 := n2_
                      have BK300 := n3_
                      have HB := n4_
                      have BK313 := n5_
                      have GW313 := n6_
                      have GE313 := n7_
                      have NB285_313 := n8_
                      have NB313_285 := n9_
                      have NB286_313 := n10_
                      have NB313_286 := n11_
                      have NB287_313 := n12_
                      have NB313_287 := n13_
                      have NB300_313 := n14_
                      have NB313_300 := n15_
                      clear n0_ n1_ n2_ n3_ n4_ n5_ n6_ n7_ n8_ n9_ n10_ n11_ n12_ n13_ n14_ n15_
                      clear hb hbox hg
                      refine hK.out _ _ ⟨(blk_cell BK285.out 0).trans rfl, (blk_cell BK285.out 1).trans rfl, (blk_cell BK285.out 2).trans rfl, (blk_cell BK286.out 0).trans rfl, (blk_cell BK286.out 1).trans rfl, (blk_cell BK286.out 2).trans rfl, (blk_cell BK287.out 0).trans rfl, (blk_cell BK287.out 1).trans rfl, (blk_cell BK287.out 2).trans rfl⟩ (fun hHeld => ?_)
                      clear hK K
                      refine norm_ (a' := ?_) ?_ ?_
                      rotate_left
                      · show Act.put _ (some 10) _ = _
                        simp only [Act.put, List.setIfInBounds_toArray, List.set_cons_zero, List.set_cons_succ, i64_w, i32_w]
                        rfl
                      exact norm_ (by first | (simp only [putAll, Act.put, List.setIfInBounds_toArray, List.set_cons_zero, List.set_cons_succ]; done) | (simp only [putAll, Act.put, List.setIfInBounds_toArray, List.set_cons_zero, List.set_cons_succ]; rfl)) (hJ2_8 (gb313) _ ⟨hHeld, (by (with_reducible repeat (first | refine blk_drewN ?_ _ | refine blk_drew ?_ | refine blk_alloc ?_ _)); exact BK285.out), (by (with_reducible repeat (first | refine blk_drewN ?_ _ | refine blk_drew ?_ | refine blk_alloc ?_ _)); exact BK286.out), (by (with_reducible repeat (first | refine blk_drewN ?_ _ | refine blk_drew ?_ | refine blk_alloc ?_ _)); exact BK287.out), (by (with_reducible repeat (first | refine blk_drewN ?_ _ | refine blk_drew ?_ | refine blk_alloc ?_ _)); exact BK300.out), (by (with_reducible repeat (first | refine blk_drewN ?_ _ | refine blk_drew ?_ | refine blk_alloc ?_ _)); exact BK313.out), GW313.out, GE313.out, NB285_313.out, NB313_285.out, NB286_313.out, NB313_286.out, NB287_313.out, NB313_287.out, NB300_313.out, NB313_300.out, (by repeat (first | (with_reducible first | exact HB.out | apply below_alloc | apply pw_below_drewN | apply below_drew1 | refine below_set ?_ GE285.out | refine below_set ?_ GE286.out | refine below_set ?_ GE287.out | refine below_set ?_ GE300.out | refine below_set ?_ GE313.out) | exact HB.out))⟩)
                · skip
                  rintro gb313 w32 ⟨hS_, h0_, h1_, h2_, h3_, h4_, h5_, h6_, h7_, h8_, h9_, h10_, h11_, h12_, h13_, h14_, h15_⟩
                  have n0_ : Aside0 (w32.heap[gb285]? = some (.cells #[.bool a1_0, .int .i64 a1_1, .int .i64 a1_2] 27 (0, 0))) := ⟨h0_⟩
                  have n1_ : Aside0 (w32.heap[gb286]? = some (.cells #[.bool a2_0, .int .i64 a2_1, .int .i64 a2_2] 27 (0, 0))) := ⟨h1_⟩
                  have n2_ : Aside0 (w32.heap[gb287]? = some (.cells #[.bool a3_0, .int .i64 a3_1, .int .i64 a3_2] 27 (0, 0))) := ⟨h2_⟩
                  have n3_ : Aside0 (w32.heap[gb300]? = some (.cells #[.bool t297, .int .i64 t298, .int .i64 t299] 23 (0, 0))) := ⟨h3_⟩
                  have n4_ : Aside0 (w32.heap[gb313]? = some (.cells #[.bool false, .int .i64 0, .int .i64 0] 23 (0, 0))) := ⟨h4_⟩
                  have n5_ : Aside0 (w.heap.size ≤ gb313) := ⟨h5_⟩
                  have n6_ : Aside0 (w.heap.size ≤ gb313) := ⟨h6_⟩
                  have n7_ : Aside0 (gb285 ≠ gb313) := ⟨h7_⟩
                  have n8_ : Aside0 (gb313 ≠ gb285) := ⟨h8_⟩
                  have n9_ : Aside0 (gb286 ≠ gb313) := ⟨h9_⟩
                  have n10_ : Aside0 (gb313 ≠ gb286) := ⟨h10_⟩
                  have n11_ : Aside0 (gb287 ≠ gb313) := ⟨h11_⟩
                  have n12_ : Aside0 (gb313 ≠ gb287) := ⟨h12_⟩
                  have n13_ : Aside0 (gb300 ≠ gb313) := ⟨h13_⟩
                  have n14_ : Aside0 (gb313 ≠ gb300) := ⟨h14_⟩
                  have n15_ : Aside0 (Below w.heap.size w w32) := ⟨h15_⟩
                  clear BK285
                  clear BK286
                  clear BK287
                  clear BK300
                  clear HB
                  clear h0_ h1_ h2_ h3_ h4_ h5_ h6_ h7_ h8_ h9_ h10_ h11_ h12_ h13_ h14_ h15_
                  have BK285 := n0_
                  have BK286 := n1_
                  have BK287 := n2_
                  have BK300 := n3_
                  have BK313 := n4_
                  have GW313 := n5_
                  have GE313 := n6_
                  have NB285_313 := n7_
                  have NB313_285 := n8_
                  have NB286_313 := n9_
                  have NB313_286 := n10_
                  have NB287_313 := n11_
                  have NB313_287 := n12_
                  have NB300_313 := n13_
                  have NB313_300 := n14_
                  have HB := n15_
                  clear n0_ n1_ n2_ n3_ n4_ n5_ n6_ n7_ n8_ n9_ n10_ n11_ n12_ n13_ n14_ n15_
                  have hHeld : w32.cell? ⟨gb285, 0, none⟩ = some (.bool a1_0) ∧ w32.cell? ⟨gb285, 1, none⟩ = some (.int .i64 a1_1) ∧ w32.cell? ⟨gb285, 2, none⟩ = some (.int .i64 a1_2) ∧ w32.cell? ⟨gb286, 0, none⟩ = some (.bool a2_0) ∧ w32.cell? ⟨gb286, 1, none⟩ = some (.int .i64 a2_1) ∧ w32.cell? ⟨gb286, 2, none⟩ = some (.int .i64 a2_2) ∧ w32.cell? ⟨gb287, 0, none⟩ = some (.bool a3_0) ∧ w32.cell? ⟨gb287, 1, none⟩ = some (.int .i64 a3_1) ∧ w32.cell? ⟨gb287, 2, none⟩ = some (.int .i64 a3_2) := hS_
                  refine norm_ (a' := ?_) ?_ ?_
                  rotate_left
                  · simp only [putAll, Act.put, List.setIfInBounds_toArray, List.set_cons_zero, List.set_cons_succ]
                    rfl
                  refine one_ (i := 4) (N := some 23) #[true, true, true, true, true, true, false, false, true, false] rfl rfl (one_of HT_.out (by kernel_rfl)) (by decide) (fun K hK => ?_)
                  refine goes_ Try.func19 (by kernel_rfl) rfl #[.agg #[.bool a2_0, .int .i64 a2_1, .int .i64 a2_2]] (by rfl) rfl rfl (by (try simp only [List.map_toArray, List.map_cons, List.map_nil]); first | done | rfl | (simp only [List.length_drop, List.length_take]; rfl)) ?_
                  with_reducible refine (laws_toSpan.calls a2_0 a2_1 a2_2 t291 t292 t293 _ A10.out).mono ?_
                  rintro e w33 ⟨rfl, hb⟩
                  refine ⟨_, rfl, ?_⟩
                  have n0_ := Aside0.mk (blk_below (g := gb285) (o := .cells #[.bool a1_0, .int .i64 a1_1, .int .i64 a1_2] 27 (0, 0)) (by (with_reducible repeat (first | refine blk_drewN ?_ _ | refine blk_drew ?_ | refine blk_alloc ?_ _)); exact BK285.out) hb)
                  have n1_ := Aside0.mk (blk_below (g := gb286) (o := .cells #[.bool a2_0, .int .i64 a2_1, .int .i64 a2_2] 27 (0, 0)) (by (with_reducible repeat (first | refine blk_drewN ?_ _ | refine blk_drew ?_ | refine blk_alloc ?_ _)); exact BK286.out) hb)
                  have n2_ := Aside0.mk (blk_below (g := gb287) (o := .cells #[.bool a3_0, .int .i64 a3_1, .int .i64 a3_2] 27 (0, 0)) (by (with_reducible repeat (first | refine blk_drewN ?_ _ | refine blk_drew ?_ | refine blk_alloc ?_ _)); exact BK287.out) hb)
                  have n3_ := Aside0.mk (blk_below (g := gb300) (o := .cells #[.bool t297, .int .i64 t298, .int .i64 t299] 23 (0, 0)) (by (with_reducible repeat (first | refine blk_drewN ?_ _ | refine blk_drew ?_ | refine blk_alloc ?_ _)); exact BK300.out) hb)
                  have n4_ := Aside0.mk (blk_below (g := gb313) (o := .cells #[.bool false, .int .i64 0, .int .i64 0] 23 (0, 0)) (by (with_reducible repeat (first | refine blk_drewN ?_ _ | refine blk_drew ?_ | refine blk_alloc ?_ _)); exact BK313.out) hb)
                  have n5_ := Aside0.mk (below_step (by repeat (first | (with_reducible first | exact HB.out | apply below_alloc | apply pw_below_drewN | apply below_drew1 | refine below_set ?_ GE285.out | refine below_set ?_ GE286.out | refine below_set ?_ GE287.out | refine below_set ?_ GE300.out | refine below_set ?_ GE313.out) | exact HB.out)) hb)
                  clear BK285
                  clear BK286
                  clear BK287
                  clear BK300
                  clear BK313
                  clear HB
                  have BK285 := n0_
                  have BK286 := n1_
                  have BK287 := n2_
                  have BK300 := n3_
                  have BK313 := n4_
                  have HB := n5_
                  clear n0_ n1_ n2_ n3_ n4_ n5_
                  (try clear hb)
                  (try clear hb2)
                  (try clear hk)
                  (try clear hi)
                  refine hK.out _ _ ⟨(blk_cell BK285.out 0).trans rfl, (blk_cell BK285.out 1).trans rfl, (blk_cell BK285.out 2).trans rfl, (blk_cell BK286.out 0).trans rfl, (blk_cell BK286.out 1).trans rfl, (blk_cell BK286.out 2).trans rfl, (blk_cell BK287.out 0).trans rfl, (blk_cell BK287.out 1).trans rfl, (blk_cell BK287.out 2).trans rfl⟩ (fun hHeld => ?_)
                  clear hK K
                  refine norm_ (a' := ?_) ?_ ?_
                  rotate_left
                  · show Act.put _ (some 23) _ = _
                    simp only [Act.put, List.setIfInBounds_toArray, List.set_cons_zero, List.set_cons_succ, i64_w, i32_w]
                    rfl
                  exact norm_ (by first | (simp only [putAll, Act.put, List.setIfInBounds_toArray, List.set_cons_zero, List.set_cons_succ]; done) | (simp only [putAll, Act.put, List.setIfInBounds_toArray, List.set_cons_zero, List.set_cons_succ]; rfl)) (hJ2_4_8 (gb313) _ ⟨hHeld, (by (with_reducible repeat (first | refine blk_drewN ?_ _ | refine blk_drew ?_ | refine blk_alloc ?_ _)); exact BK285.out), (by (with_reducible repeat (first | refine blk_drewN ?_ _ | refine blk_drew ?_ | refine blk_alloc ?_ _)); exact BK286.out), (by (with_reducible repeat (first | refine blk_drewN ?_ _ | refine blk_drew ?_ | refine blk_alloc ?_ _)); exact BK287.out), (by (with_reducible repeat (first | refine blk_drewN ?_ _ | refine blk_drew ?_ | refine blk_alloc ?_ _)); exact BK300.out), (by (with_reducible repeat (first | refine blk_drewN ?_ _ | refine blk_drew ?_ | refine blk_alloc ?_ _)); exact BK313.out), GW313.out, GE313.out, NB285_313.out, NB313_285.out, NB286_313.out, NB313_286.out, NB287_313.out, NB313_287.out, NB300_313.out, NB313_300.out, (by repeat (first | (with_reducible first | exact HB.out | apply below_alloc | apply pw_below_drewN | apply below_drew1 | refine below_set ?_ GE285.out | refine below_set ?_ GE286.out | refine below_set ?_ GE287.out | refine below_set ?_ GE300.out | refine below_set ?_ GE313.out) | exact HB.out))⟩)
              · skip
                rintro _ w32 ⟨hS_, h0_, h1_, h2_, h3_, h4_⟩
                have n0_ : Aside0 (w32.heap[gb285]? = some (.cells #[.bool a1_0, .int .i64 a1_1, .int .i64 a1_2] 27 (0, 0))) := ⟨h0_⟩
                have n1_ : Aside0 (w32.heap[gb286]? = some (.cells #[.bool a2_0, .int .i64 a2_1, .int .i64 a2_2] 27 (0, 0))) := ⟨h1_⟩
                have n2_ : Aside0 (w32.heap[gb287]? = some (.cells #[.bool a3_0, .int .i64 a3_1, .int .i64 a3_2] 27 (0, 0))) := ⟨h2_⟩
                have n3_ : Aside0 (w32.heap[gb300]? = some (.cells #[.bool t297, .int .i64 t298, .int .i64 t299] 23 (0, 0))) := ⟨h3_⟩
                have n4_ : Aside0 (Below w.heap.size w w32) := ⟨h4_⟩
                clear BK285
                clear BK286
                clear BK287
                clear BK300
                clear HB
                clear h0_ h1_ h2_ h3_ h4_
                have BK285 := n0_
                have BK286 := n1_
                have BK287 := n2_
                have BK300 := n3_
                have HB := n4_
                clear n0_ n1_ n2_ n3_ n4_
                have hHeld : w32.cell? ⟨gb285, 0, none⟩ = some (.bool a1_0) ∧ w32.cell? ⟨gb285, 1, none⟩ = some (.int .i64 a1_1) ∧ w32.cell? ⟨gb285, 2, none⟩ = some (.int .i64 a1_2) ∧ w32.cell? ⟨gb286, 0, none⟩ = some (.bool a2_0) ∧ w32.cell? ⟨gb286, 1, none⟩ = some (.int .i64 a2_1) ∧ w32.cell? ⟨gb286, 2, none⟩ = some (.int .i64 a2_2) ∧ w32.cell? ⟨gb287, 0, none⟩ = some (.bool a3_0) ∧ w32.cell? ⟨gb287, 1, none⟩ = some (.int .i64 a3_1) ∧ w32.cell? ⟨gb287, 2, none⟩ = some (.int .i64 a3_2) := hS_
                refine norm_ (a' := ?_) ?_ ?_
                rotate_left
                · simp only [putAll, Act.put, List.setIfInBounds_toArray, List.set_cons_zero, List.set_cons_succ]
                  rfl
                refine two_ (i := 6) (j := 8) (Ni := some 25) (Nj := some 10) #[true, true, true, true, true, true, true, false, false, false] #[true, true, true, true, true, true, false, false, true, false] rfl rfl rfl rfl (two_of HT_.out (by kernel_rfl)) (by decide) (by decide) (fun K hK => ?_) (fun K hK => ?_)
                · skip
                  refine goes_ Try.func19 (by kernel_rfl) rfl #[.agg #[.bool a3_0, .int .i64 a3_1, .int .i64 a3_2]] (by rfl) rfl rfl (by (try simp only [List.map_toArray, List.map_cons, List.map_nil]); first | done | rfl | (simp only [List.length_drop, List.length_take]; rfl)) ?_
                  with_reducible refine (laws_toSpan.calls a3_0 a3_1 a3_2 t294 t295 t296 _ A11.out).mono ?_
                  rintro e w33 ⟨rfl, hb⟩
                  refine ⟨_, rfl, ?_⟩
                  have n0_ := Aside0.mk (blk_below (g := gb285) (o := .cells #[.bool a1_0, .int .i64 a1_1, .int .i64 a1_2] 27 (0, 0)) (by (with_reducible repeat (first | refine blk_drewN ?_ _ | refine blk_drew ?_ | refine blk_alloc ?_ _)); exact BK285.out) hb)
                  have n1_ := Aside0.mk (blk_below (g := gb286) (o := .cells #[.bool a2_0, .int .i64 a2_1, .int .i64 a2_2] 27 (0, 0)) (by (with_reducible repeat (first | refine blk_drewN ?_ _ | refine blk_drew ?_ | refine blk_alloc ?_ _)); exact BK286.out) hb)
                  have n2_ := Aside0.mk (blk_below (g := gb287) (o := .cells #[.bool a3_0, .int .i64 a3_1, .int .i64 a3_2] 27 (0, 0)) (by (with_reducible repeat (first | refine blk_drewN ?_ _ | refine blk_drew ?_ | refine blk_alloc ?_ _)); exact BK287.out) hb)
                  have n3_ := Aside0.mk (blk_below (g := gb300) (o := .cells #[.bool t297, .int .i64 t298, .int .i64 t299] 23 (0, 0)) (by (with_reducible repeat (first | refine blk_drewN ?_ _ | refine blk_drew ?_ | refine blk_alloc ?_ _)); exact BK300.out) hb)
                  have n4_ := Aside0.mk (below_step (by repeat (first | (with_reducible first | exact HB.out | apply below_alloc | apply pw_below_drewN | apply below_drew1 | refine below_set ?_ GE285.out | refine below_set ?_ GE286.out | refine below_set ?_ GE287.out | refine below_set ?_ GE300.out) | exact HB.out)) hb)
                  clear BK285
                  clear BK286
                  clear BK287
                  clear BK300
                  clear HB
                  have BK285 := n0_
                  have BK286 := n1_
                  have BK287 := n2_
                  have BK300 := n3_
                  have HB := n4_
                  clear n0_ n1_ n2_ n3_ n4_
                  (try clear hb)
                  (try clear hb2)
                  (try clear hk)
                  (try clear hi)
                  refine hK.out _ _ ⟨(blk_cell BK285.out 0).trans rfl, (blk_cell BK285.out 1).trans rfl, (blk_cell BK285.out 2).trans rfl, (blk_cell BK286.out 0).trans rfl, (blk_cell BK286.out 1).trans rfl, (blk_cell BK286.out 2).trans rfl, (blk_cell BK287.out 0).trans rfl, (blk_cell BK287.out 1).trans rfl, (blk_cell BK287.out 2).trans rfl⟩ (fun hHeld => ?_)
                  clear hK K
                  refine norm_ (a' := ?_) ?_ ?_
                  rotate_left
                  · show Act.put _ (some 25) _ = _
                    simp only [Act.put, List.setIfInBounds_toArray, List.set_cons_zero, List.set_cons_succ, i64_w, i32_w]
                    rfl
                  exact norm_ (by first | (simp only [putAll, Act.put, List.setIfInBounds_toArray, List.set_cons_zero, List.set_cons_succ]; done) | (simp only [putAll, Act.put, List.setIfInBounds_toArray, List.set_cons_zero, List.set_cons_succ]; rfl)) (hJ2_4_6 () _ ⟨hHeld, (by (with_reducible repeat (first | refine blk_drewN ?_ _ | refine blk_drew ?_ | refine blk_alloc ?_ _)); exact BK285.out), (by (with_reducible repeat (first | refine blk_drewN ?_ _ | refine blk_drew ?_ | refine blk_alloc ?_ _)); exact BK286.out), (by (with_reducible repeat (first | refine blk_drewN ?_ _ | refine blk_drew ?_ | refine blk_alloc ?_ _)); exact BK287.out), (by (with_reducible repeat (first | refine blk_drewN ?_ _ | refine blk_drew ?_ | refine blk_alloc ?_ _)); exact BK300.out), (by repeat (first | (with_reducible first | exact HB.out | apply below_alloc | apply pw_below_drewN | apply below_drew1 | refine below_set ?_ GE285.out | refine below_set ?_ GE286.out | refine below_set ?_ GE287.out | refine below_set ?_ GE300.out) | exact HB.out))⟩)
                · skip
                  refine box_step ?hg (N := 10) ?hd (cs := #[.bool false, .int .i64 0, .int .i64 0]) (t := 23) ?hr ?_; (case hd => rfl); (case hg => rfl); (case hr => first | (go_simp; done) | (go_simp; rfl))
                  intro gb313 hg w33 hbox hb
                  have n0_ := Aside0.mk (blk_below (g := gb285) (o := .cells #[.bool a1_0, .int .i64 a1_1, .int .i64 a1_2] 27 (0, 0)) (by (with_reducible repeat (first | refine blk_drewN ?_ _ | refine blk_drew ?_ | refine blk_alloc ?_ _)); exact BK285.out) hb)
                  have n1_ := Aside0.mk (blk_below (g := gb286) (o := .cells #[.bool a2_0, .int .i64 a2_1, .int .i64 a2_2] 27 (0, 0)) (by (with_reducible repeat (first | refine blk_drewN ?_ _ | refine blk_drew ?_ | refine blk_alloc ?_ _)); exact BK286.out) hb)
                  have n2_ := Aside0.mk (blk_below (g := gb287) (o := .cells #[.bool a3_0, .int .i64 a3_1, .int .i64 a3_2] 27 (0, 0)) (by (with_reducible repeat (first | refine blk_drewN ?_ _ | refine blk_drew ?_ | refine blk_alloc ?_ _)); exact BK287.out) hb)
                  have n3_ := Aside0.mk (blk_below (g := gb300) (o := .cells #[.bool t297, .int .i64 t298, .int .i64 t299] 23 (0, 0)) (by (with_reducible repeat (first | refine blk_drewN ?_ _ | refine blk_drew ?_ | refine blk_alloc ?_ _)); exact BK300.out) hb)
                  have n4_ := Aside0.mk (below_step (by repeat (first | (with_reducible first | exact HB.out | apply below_alloc | apply pw_below_drewN | apply below_drew1 | refine below_set ?_ GE285.out | refine below_set ?_ GE286.out | refine below_set ?_ GE287.out | refine below_set ?_ GE300.out) | exact HB.out)) hb)
                  have n5_ := Aside0.mk (hbox)
                  have n6_ := Aside0.mk ((by rw [hg]; exact (below_size (by repeat (first | (with_reducible first | exact HB.out | apply below_alloc | apply pw_below_drewN | apply below_drew1 | refine below_set ?_ GE285.out | refine below_set ?_ GE286.out | refine below_set ?_ GE287.out | refine below_set ?_ GE300.out) | exact HB.out))) : w.heap.size ≤ gb313))
                  have n7_ := Aside0.mk ((by rw [hg]; exact (below_size (by repeat (first | (with_reducible first | exact HB.out | apply below_alloc | apply pw_below_drewN | apply below_drew1 | refine below_set ?_ GE285.out | refine below_set ?_ GE286.out | refine below_set ?_ GE287.out | refine below_set ?_ GE300.out) | exact HB.out))) : w.heap.size ≤ gb313))
                  have n8_ := Aside0.mk ((by rw [hg]; exact Nat.ne_of_lt (blk_lt (g := gb285) (o := .cells #[.bool a1_0, .int .i64 a1_1, .int .i64 a1_2] 27 (0, 0)) (by (with_reducible repeat (first | refine blk_drewN ?_ _ | refine blk_drew ?_ | refine blk_alloc ?_ _)); exact BK285.out)) : gb285 ≠ gb313))
                  have n9_ := Aside0.mk ((by rw [hg]; exact Nat.ne_of_gt (blk_lt (g := gb285) (o := .cells #[.bool a1_0, .int .i64 a1_1, .int .i64 a1_2] 27 (0, 0)) (by (with_reducible repeat (first | refine blk_drewN ?_ _ | refine blk_drew ?_ | refine blk_alloc ?_ _)); exact BK285.out)) : gb313 ≠ gb285))
                  have n10_ := Aside0.mk ((by rw [hg]; exact Nat.ne_of_lt (blk_lt (g := gb286) (o := .cells #[.bool a2_0, .int .i64 a2_1, .int .i64 a2_2] 27 (0, 0)) (by (with_reducible repeat (first | refine blk_drewN ?_ _ | refine blk_drew ?_ | refine blk_alloc ?_ _)); exact BK286.out)) : gb286 ≠ gb313))
                  have n11_ := Aside0.mk ((by rw [hg]; exact Nat.ne_of_gt (blk_lt (g := gb286) (o := .cells #[.bool a2_0, .int .i64 a2_1, .int .i64 a2_2] 27 (0, 0)) (by (with_reducible repeat (first | refine blk_drewN ?_ _ | refine blk_drew ?_ | refine blk_alloc ?_ _)); exact BK286.out)) : gb313 ≠ gb286))
                  have n12_ := Aside0.mk ((by rw [hg]; exact Nat.ne_of_lt (blk_lt (g := gb287) (o := .cells #[.bool a3_0, .int .i64 a3_1, .int .i64 a3_2] 27 (0, 0)) (by (with_reducible repeat (first | refine blk_drewN ?_ _ | refine blk_drew ?_ | refine blk_alloc ?_ _)); exact BK287.out)) : gb287 ≠ gb313))
                  have n13_ := Aside0.mk ((by rw [hg]; exact Nat.ne_of_gt (blk_lt (g := gb287) (o := .cells #[.bool a3_0, .int .i64 a3_1, .int .i64 a3_2] 27 (0, 0)) (by (with_reducible repeat (first | refine blk_drewN ?_ _ | refine blk_drew ?_ | refine blk_alloc ?_ _)); exact BK287.out)) : gb313 ≠ gb287))
                  have n14_ := Aside0.mk ((by rw [hg]; exact Nat.ne_of_lt (blk_lt (g := gb300) (o := .cells #[.bool t297, .int .i64 t298, .int .i64 t299] 23 (0, 0)) (by (with_reducible repeat (first | refine blk_drewN ?_ _ | refine blk_drew ?_ | refine blk_alloc ?_ _)); exact BK300.out)) : gb300 ≠ gb313))
                  have n15_ := Aside0.mk ((by rw [hg]; exact Nat.ne_of_gt (blk_lt (g := gb300) (o := .cells #[.bool t297, .int .i64 t298, .int .i64 t299] 23 (0, 0)) (by (with_reducible repeat (first | refine blk_drewN ?_ _ | refine blk_drew ?_ | refine blk_alloc ?_ _)); exact BK300.out)) : gb313 ≠ gb300))
                  clear BK285
                  clear BK286
                  clear BK287
                  clear BK300
                  clear HB
                  have BK285 := n0_
                  have BK286 := n1_
                  have BK287 := n2_
                  have BK300 := n3_
                  have HB := n4_
                  have BK313 := n5_
                  have GW313 := n6_
                  have GE313 := n7_
                  have NB285_313 := n8_
                  have NB313_285 := n9_
                  have NB286_313 := n10_
                  have NB313_286 := n11_
                  have NB287_313 := n12_
                  have NB313_287 := n13_
                  have NB300_313 := n14_
                  have NB313_300 := n15_
                  clear n0_ n1_ n2_ n3_ n4_ n5_ n6_ n7_ n8_ n9_ n10_ n11_ n12_ n13_ n14_ n15_
                  clear hb hbox hg
                  refine hK.out _ _ ⟨(blk_cell BK285.out 0).trans rfl, (blk_cell BK285.out 1).trans rfl, (blk_cell BK285.out 2).trans rfl, (blk_cell BK286.out 0).trans rfl, (blk_cell BK286.out 1).trans rfl, (blk_cell BK286.out 2).trans rfl, (blk_cell BK287.out 0).trans rfl, (blk_cell BK287.out 1).trans rfl, (blk_cell BK287.out 2).trans rfl⟩ (fun hHeld => ?_)
                  clear hK K
                  refine norm_ (a' := ?_) ?_ ?_
                  rotate_left
                  · show Act.put _ (some 10) _ = _
                    simp only [Act.put, List.setIfInBounds_toArray, List.set_cons_zero, List.set_cons_succ, i64_w, i32_w]
                    rfl
                  exact norm_ (by first | (simp only [putAll, Act.put, List.setIfInBounds_toArray, List.set_cons_zero, List.set_cons_succ]; done) | (simp only [putAll, Act.put, List.setIfInBounds_toArray, List.set_cons_zero, List.set_cons_succ]; rfl)) (hJ2_4_8 (gb313) _ ⟨hHeld, (by (with_reducible repeat (first | refine blk_drewN ?_ _ | refine blk_drew ?_ | refine blk_alloc ?_ _)); exact BK285.out), (by (with_reducible repeat (first | refine blk_drewN ?_ _ | refine blk_drew ?_ | refine blk_alloc ?_ _)); exact BK286.out), (by (with_reducible repeat (first | refine blk_drewN ?_ _ | refine blk_drew ?_ | refine blk_alloc ?_ _)); exact BK287.out), (by (with_reducible repeat (first | refine blk_drewN ?_ _ | refine blk_drew ?_ | refine blk_alloc ?_ _)); exact BK300.out), (by (with_reducible repeat (first | refine blk_drewN ?_ _ | refine blk_drew ?_ | refine blk_alloc ?_ _)); exact BK313.out), GW313.out, GE313.out, NB285_313.out, NB313_285.out, NB286_313.out, NB313_286.out, NB287_313.out, NB313_287.out, NB300_313.out, NB313_300.out, (by repeat (first | (with_reducible first | exact HB.out | apply below_alloc | apply pw_below_drewN | apply below_drew1 | refine below_set ?_ GE285.out | refine below_set ?_ GE286.out | refine below_set ?_ GE287.out | refine below_set ?_ GE300.out | refine below_set ?_ GE313.out) | exact HB.out))⟩)
            · skip
              rintro gb313 w33 ⟨hS_, h0_, h1_, h2_, h3_, h4_, h5_, h6_, h7_, h8_, h9_, h10_, h11_, h12_, h13_, h14_, h15_⟩
              have n0_ : Aside0 (w33.heap[gb285]? = some (.cells #[.bool a1_0, .int .i64 a1_1, .int .i64 a1_2] 27 (0, 0))) := ⟨h0_⟩
              have n1_ : Aside0 (w33.heap[gb286]? = some (.cells #[.bool a2_0, .int .i64 a2_1, .int .i64 a2_2] 27 (0, 0))) := ⟨h1_⟩
              have n2_ : Aside0 (w33.heap[gb287]? = some (.cells #[.bool a3_0, .int .i64 a3_1, .int .i64 a3_2] 27 (0, 0))) := ⟨h2_⟩
              have n3_ : Aside0 (w33.heap[gb300]? = some (.cells #[.bool t297, .int .i64 t298, .int .i64 t299] 23 (0, 0))) := ⟨h3_⟩
              have n4_ : Aside0 (w33.heap[gb313]? = some (.cells #[.bool false, .int .i64 0, .int .i64 0] 23 (0, 0))) := ⟨h4_⟩
              have n5_ : Aside0 (w.heap.size ≤ gb313) := ⟨h5_⟩
              have n6_ : Aside0 (w.heap.size ≤ gb313) := ⟨h6_⟩
              have n7_ : Aside0 (gb285 ≠ gb313) := ⟨h7_⟩
              have n8_ : Aside0 (gb313 ≠ gb285) := ⟨h8_⟩
              have n9_ : Aside0 (gb286 ≠ gb313) := ⟨h9_⟩
              have n10_ : Aside0 (gb313 ≠ gb286) := ⟨h10_⟩
              have n11_ : Aside0 (gb287 ≠ gb313) := ⟨h11_⟩
              have n12_ : Aside0 (gb313 ≠ gb287) := ⟨h12_⟩
              have n13_ : Aside0 (gb300 ≠ gb313) := ⟨h13_⟩
              have n14_ : Aside0 (gb313 ≠ gb300) := ⟨h14_⟩
              have n15_ : Aside0 (Below w.heap.size w w33) := ⟨h15_⟩
              clear BK285
              clear BK286
              clear BK287
              clear BK300
              clear HB
              clear h0_ h1_ h2_ h3_ h4_ h5_ h6_ h7_ h8_ h9_ h10_ h11_ h12_ h13_ h14_ h15_
              have BK285 := n0_
              have BK286 := n1_
              have BK287 := n2_
              have BK300 := n3_
              have BK313 := n4_
              have GW313 := n5_
              have GE313 := n6_
              have NB285_313 := n7_
              have NB313_285 := n8_
              have NB286_313 := n9_
              have NB313_286 := n10_
              have NB287_313 := n11_
              have NB313_287 := n12_
              have NB300_313 := n13_
              have NB313_300 := n14_
              have HB := n15_
              clear n0_ n1_ n2_ n3_ n4_ n5_ n6_ n7_ n8_ n9_ n10_ n11_ n12_ n13_ n14_ n15_
              have hHeld : w33.cell? ⟨gb285, 0, none⟩ = some (.bool a1_0) ∧ w33.cell? ⟨gb285, 1, none⟩ = some (.int .i64 a1_1) ∧ w33.cell? ⟨gb285, 2, none⟩ = some (.int .i64 a1_2) ∧ w33.cell? ⟨gb286, 0, none⟩ = some (.bool a2_0) ∧ w33.cell? ⟨gb286, 1, none⟩ = some (.int .i64 a2_1) ∧ w33.cell? ⟨gb286, 2, none⟩ = some (.int .i64 a2_2) ∧ w33.cell? ⟨gb287, 0, none⟩ = some (.bool a3_0) ∧ w33.cell? ⟨gb287, 1, none⟩ = some (.int .i64 a3_1) ∧ w33.cell? ⟨gb287, 2, none⟩ = some (.int .i64 a3_2) := hS_
              refine norm_ (a' := ?_) ?_ ?_
              rotate_left
              · simp only [putAll, Act.put, List.setIfInBounds_toArray, List.set_cons_zero, List.set_cons_succ]
                rfl
              refine one_ (i := 6) (N := some 25) #[true, true, true, true, true, true, true, false, true, false] rfl rfl (one_of HT_.out (by kernel_rfl)) (by decide) (fun K hK => ?_)
              refine goes_ Try.func19 (by kernel_rfl) rfl #[.agg #[.bool a3_0, .int .i64 a3_1, .int .i64 a3_2]] (by rfl) rfl rfl (by (try simp only [List.map_toArray, List.map_cons, List.map_nil]); first | done | rfl | (simp only [List.length_drop, List.length_take]; rfl)) ?_
              with_reducible refine (laws_toSpan.calls a3_0 a3_1 a3_2 t294 t295 t296 _ A11.out).mono ?_
              rintro e w34 ⟨rfl, hb⟩
              refine ⟨_, rfl, ?_⟩
              have n0_ := Aside0.mk (blk_below (g := gb285) (o := .cells #[.bool a1_0, .int .i64 a1_1, .int .i64 a1_2] 27 (0, 0)) (by (with_reducible repeat (first | refine blk_drewN ?_ _ | refine blk_drew ?_ | refine blk_alloc ?_ _)); exact BK285.out) hb)
              have n1_ := Aside0.mk (blk_below (g := gb286) (o := .cells #[.bool a2_0, .int .i64 a2_1, .int .i64 a2_2] 27 (0, 0)) (by (with_reducible repeat (first | refine blk_drewN ?_ _ | refine blk_drew ?_ | refine blk_alloc ?_ _)); exact BK286.out) hb)
              have n2_ := Aside0.mk (blk_below (g := gb287) (o := .cells #[.bool a3_0, .int .i64 a3_1, .int .i64 a3_2] 27 (0, 0)) (by (with_reducible repeat (first | refine blk_drewN ?_ _ | refine blk_drew ?_ | refine blk_alloc ?_ _)); exact BK287.out) hb)
              have n3_ := Aside0.mk (blk_below (g := gb300) (o := .cells #[.bool t297, .int .i64 t298, .int .i64 t299] 23 (0, 0)) (by (with_reducible repeat (first | refine blk_drewN ?_ _ | refine blk_drew ?_ | refine blk_alloc ?_ _)); exact BK300.out) hb)
              have n4_ := Aside0.mk (blk_below (g := gb313) (o := .cells #[.bool false, .int .i64 0, .int .i64 0] 23 (0, 0)) (by (with_reducible repeat (first | refine blk_drewN ?_ _ | refine blk_drew ?_ | refine blk_alloc ?_ _)); exact BK313.out) hb)
              have n5_ := Aside0.mk (below_step (by repeat (first | (with_reducible first | exact HB.out | apply below_alloc | apply pw_below_drewN | apply below_drew1 | refine below_set ?_ GE285.out | refine below_set ?_ GE286.out | refine below_set ?_ GE287.out | refine below_set ?_ GE300.out | refine below_set ?_ GE313.out) | exact HB.out)) hb)
              clear BK285
              clear BK286
              clear BK287
              clear BK300
              clear BK313
              clear HB
              have BK285 := n0_
              have BK286 := n1_
              have BK287 := n2_
              have BK300 := n3_
              have BK313 := n4_
              have HB := n5_
              clear n0_ n1_ n2_ n3_ n4_ n5_
              (try clear hb)
              (try clear hb2)
              (try clear hk)
              (try clear hi)
              refine hK.out _ _ ⟨(blk_cell BK285.out 0).trans rfl, (blk_cell BK285.out 1).trans rfl, (blk_cell BK285.out 2).trans rfl, (blk_cell BK286.out 0).trans rfl, (blk_cell BK286.out 1).trans rfl, (blk_cell BK286.out 2).trans rfl, (blk_cell BK287.out 0).trans rfl, (blk_cell BK287.out 1).trans rfl, (blk_cell BK287.out 2).trans rfl⟩ (fun hHeld => ?_)
              clear hK K
              refine norm_ (a' := ?_) ?_ ?_
              rotate_left
              · show Act.put _ (some 25) _ = _
                simp only [Act.put, List.setIfInBounds_toArray, List.set_cons_zero, List.set_cons_succ, i64_w, i32_w]
                rfl
              exact norm_ (by first | (simp only [putAll, Act.put, List.setIfInBounds_toArray, List.set_cons_zero, List.set_cons_succ]; done) | (simp only [putAll, Act.put, List.setIfInBounds_toArray, List.set_cons_zero, List.set_cons_succ]; rfl)) (hJ2_4_6_8 (gb313) _ ⟨hHeld, (by (with_reducible repeat (first | refine blk_drewN ?_ _ | refine blk_drew ?_ | refine blk_alloc ?_ _)); exact BK285.out), (by (with_reducible repeat (first | refine blk_drewN ?_ _ | refine blk_drew ?_ | refine blk_alloc ?_ _)); exact BK286.out), (by (with_reducible repeat (first | refine blk_drewN ?_ _ | refine blk_drew ?_ | refine blk_alloc ?_ _)); exact BK287.out), (by (with_reducible repeat (first | refine blk_drewN ?_ _ | refine blk_drew ?_ | refine blk_alloc ?_ _)); exact BK300.out), (by (with_reducible repeat (first | refine blk_drewN ?_ _ | refine blk_drew ?_ | refine blk_alloc ?_ _)); exact BK313.out), GW313.out, GE313.out, NB285_313.out, NB313_285.out, NB286_313.out, NB313_286.out, NB287_313.out, NB313_287.out, NB300_313.out, NB313_300.out, (by repeat (first | (with_reducible first | exact HB.out | apply below_alloc | apply pw_below_drewN | apply below_drew1 | refine below_set ?_ GE285.out | refine below_set ?_ GE286.out | refine below_set ?_ GE287.out | refine below_set ?_ GE300.out | refine below_set ?_ GE313.out) | exact HB.out))⟩)
          · skip
            rintro _ w33 ⟨hS_, h0_, h1_, h2_, h3_, h4_⟩
            have n0_ : Aside0 (w33.heap[gb285]? = some (.cells #[.bool a1_0, .int .i64 a1_1, .int .i64 a1_2] 27 (0, 0))) := ⟨h0_⟩
            have n1_ : Aside0 (w33.heap[gb286]? = some (.cells #[.bool a2_0, .int .i64 a2_1, .int .i64 a2_2] 27 (0, 0))) := ⟨h1_⟩
            have n2_ : Aside0 (w33.heap[gb287]? = some (.cells #[.bool a3_0, .int .i64 a3_1, .int .i64 a3_2] 27 (0, 0))) := ⟨h2_⟩
            have n3_ : Aside0 (w33.heap[gb300]? = some (.cells #[.bool t297, .int .i64 t298, .int .i64 t299] 23 (0, 0))) := ⟨h3_⟩
            have n4_ : Aside0 (Below w.heap.size w w33) := ⟨h4_⟩
            clear BK285
            clear BK286
            clear BK287
            clear BK300
            clear HB
            clear h0_ h1_ h2_ h3_ h4_
            have BK285 := n0_
            have BK286 := n1_
            have BK287 := n2_
            have BK300 := n3_
            have HB := n4_
            clear n0_ n1_ n2_ n3_ n4_
            have hHeld : w33.cell? ⟨gb285, 0, none⟩ = some (.bool a1_0) ∧ w33.cell? ⟨gb285, 1, none⟩ = some (.int .i64 a1_1) ∧ w33.cell? ⟨gb285, 2, none⟩ = some (.int .i64 a1_2) ∧ w33.cell? ⟨gb286, 0, none⟩ = some (.bool a2_0) ∧ w33.cell? ⟨gb286, 1, none⟩ = some (.int .i64 a2_1) ∧ w33.cell? ⟨gb286, 2, none⟩ = some (.int .i64 a2_2) ∧ w33.cell? ⟨gb287, 0, none⟩ = some (.bool a3_0) ∧ w33.cell? ⟨gb287, 1, none⟩ = some (.int .i64 a3_1) ∧ w33.cell? ⟨gb287, 2, none⟩ = some (.int .i64 a3_2) := hS_
            refine norm_ (a' := ?_) ?_ ?_
            rotate_left
            · simp only [putAll, Act.put, List.setIfInBounds_toArray, List.set_cons_zero, List.set_cons_succ]
              rfl
            refine two_ (i := 7) (j := 8) (Ni := some 26) (Nj := some 10) #[true, true, true, true, true, true, true, true, false, false] #[true, true, true, true, true, true, true, false, true, false] rfl rfl rfl rfl (two_of HT_.out (by kernel_rfl)) (by decide) (by decide) (fun K hK => ?_) (fun K hK => ?_)
            · skip
              refine goes_ Try.func36 (by kernel_rfl) rfl #[.int .i64 a0, .agg #[.bool t288, .int .i64 t289, .int .i64 t290], .agg #[.bool t291, .int .i64 t292, .int .i64 t293], .agg #[.bool t294, .int .i64 t295, .int .i64 t296]] (by rfl) rfl rfl (by (try simp only [List.map_toArray, List.map_cons, List.map_nil]); first | done | rfl | (simp only [List.length_drop, List.length_take]; rfl)) ?_
              with_reducible refine (impl_BackMax.calls k a0 t288 t289 t290 t291 t292 t293 t294 t295 t296 t310 t311 t312 _ A12.out).mono ?_
              rintro e w34 ⟨rfl, hb⟩
              refine ⟨_, rfl, ?_⟩
              have n0_ := Aside0.mk (blk_below (g := gb285) (o := .cells #[.bool a1_0, .int .i64 a1_1, .int .i64 a1_2] 27 (0, 0)) (by (with_reducible repeat (first | refine blk_drewN ?_ _ | refine blk_drew ?_ | refine blk_alloc ?_ _)); exact BK285.out) hb)
              have n1_ := Aside0.mk (blk_below (g := gb286) (o := .cells #[.bool a2_0, .int .i64 a2_1, .int .i64 a2_2] 27 (0, 0)) (by (with_reducible repeat (first | refine blk_drewN ?_ _ | refine blk_drew ?_ | refine blk_alloc ?_ _)); exact BK286.out) hb)
              have n2_ := Aside0.mk (blk_below (g := gb287) (o := .cells #[.bool a3_0, .int .i64 a3_1, .int .i64 a3_2] 27 (0, 0)) (by (with_reducible repeat (first | refine blk_drewN ?_ _ | refine blk_drew ?_ | refine blk_alloc ?_ _)); exact BK287.out) hb)
              have n3_ := Aside0.mk (blk_below (g := gb300) (o := .cells #[.bool t297, .int .i64 t298, .int .i64 t299] 23 (0, 0)) (by (with_reducible repeat (first | refine blk_drewN ?_ _ | refine blk_drew ?_ | refine blk_alloc ?_ _)); exact BK300.out) hb)
              have n4_ := Aside0.mk (below_step (by repeat (first | (with_reducible first | exact HB.out | apply below_alloc | apply pw_below_drewN | apply below_drew1 | refine below_set ?_ GE285.out | refine below_set ?_ GE286.out | refine below_set ?_ GE287.out | refine below_set ?_ GE300.out) | exact HB.out)) hb)
              clear BK285
              clear BK286
              clear BK287
              clear BK300
              clear HB
              have BK285 := n0_
              have BK286 := n1_
              have BK287 := n2_
              have BK300 := n3_
              have HB := n4_
              clear n0_ n1_ n2_ n3_ n4_
              (try clear hb)
              (try clear hb2)
              (try clear hk)
              (try clear hi)
              refine hK.out _ _ ⟨(blk_cell BK285.out 0).trans rfl, (blk_cell BK285.out 1).trans rfl, (blk_cell BK285.out 2).trans rfl, (blk_cell BK286.out 0).trans rfl, (blk_cell BK286.out 1).trans rfl, (blk_cell BK286.out 2).trans rfl, (blk_cell BK287.out 0).trans rfl, (blk_cell BK287.out 1).trans rfl, (blk_cell BK287.out 2).trans rfl⟩ (fun hHeld => ?_)
              clear hK K
              refine norm_ (a' := ?_) ?_ ?_
              rotate_left
              · show Act.put _ (some 26) _ = _
                simp only [Act.put, List.setIfInBounds_toArray, List.set_cons_zero, List.set_cons_succ, i64_w, i32_w]
                rfl
              exact norm_ (by first | (simp only [putAll, Act.put, List.setIfInBounds_toArray, List.set_cons_zero, List.set_cons_succ]; done) | (simp only [putAll, Act.put, List.setIfInBounds_toArray, List.set_cons_zero, List.set_cons_succ]; rfl)) (hJ2_4_6_7 () _ ⟨hHeld, (by (with_reducible repeat (first | refine blk_drewN ?_ _ | refine blk_drew ?_ | refine blk_alloc ?_ _)); exact BK285.out), (by (with_reducible repeat (first | refine blk_drewN ?_ _ | refine blk_drew ?_ | refine blk_alloc ?_ _)); exact BK286.out), (by (with_reducible repeat (first | refine blk_drewN ?_ _ | refine blk_drew ?_ | refine blk_alloc ?_ _)); exact BK287.out), (by (with_reducible repeat (first | refine blk_drewN ?_ _ | refine blk_drew ?_ | refine blk_alloc ?_ _)); exact BK300.out), (by repeat (first | (with_reducible first | exact HB.out | apply below_alloc | apply pw_below_drewN | apply below_drew1 | refine below_set ?_ GE285.out | refine below_set ?_ GE286.out | refine below_set ?_ GE287.out | refine below_set ?_ GE300.out) | exact HB.out))⟩)
            · skip
              refine box_step ?hg (N := 10) ?hd (cs := #[.bool false, .int .i64 0, .int .i64 0]) (t := 23) ?hr ?_; (case hd => rfl); (case hg => rfl); (case hr => first | (go_simp; done) | (go_simp; rfl))
              intro gb313 hg w34 hbox hb
              have n0_ := Aside0.mk (blk_below (g := gb285) (o := .cells #[.bool a1_0, .int .i64 a1_1, .int .i64 a1_2] 27 (0, 0)) (by (with_reducible repeat (first | refine blk_drewN ?_ _ | refine blk_drew ?_ | refine blk_alloc ?_ _)); exact BK285.out) hb)
              have n1_ := Aside0.mk (blk_below (g := gb286) (o := .cells #[.bool a2_0, .int .i64 a2_1, .int .i64 a2_2] 27 (0, 0)) (by (with_reducible repeat (first | refine blk_drewN ?_ _ | refine blk_drew ?_ | refine blk_alloc ?_ _)); exact BK286.out) hb)
              have n2_ := Aside0.mk (blk_below (g := gb287) (o := .cells #[.bool a3_0, .int .i64 a3_1, .int .i64 a3_2] 27 (0, 0)) (by (with_reducible repeat (first | refine blk_drewN ?_ _ | refine blk_drew ?_ | refine blk_alloc ?_ _)); exact BK287.out) hb)
              have n3_ := Aside0.mk (blk_below (g := gb300) (o := .cells #[.bool t297, .int .i64 t298, .int .i64 t299] 23 (0, 0)) (by (with_reducible repeat (first | refine blk_drewN ?_ _ | refine blk_drew ?_ | refine blk_alloc ?_ _)); exact BK300.out) hb)
              have n4_ := Aside0.mk (below_step (by repeat (first | (with_reducible first | exact HB.out | apply below_alloc | apply pw_below_drewN | apply below_drew1 | refine below_set ?_ GE285.out | refine below_set ?_ GE286.out | refine below_set ?_ GE287.out | refine below_set ?_ GE300.out) | exact HB.out)) hb)
              have n5_ := Aside0.mk (hbox)
              have n6_ := Aside0.mk ((by rw [hg]; exact (below_size (by repeat (first | (with_reducible first | exact HB.out | apply below_alloc | apply pw_below_drewN | apply below_drew1 | refine below_set ?_ GE285.out | refine below_set ?_ GE286.out | refine below_set ?_ GE287.out | refine below_set ?_ GE300.out) | exact HB.out))) : w.heap.size ≤ gb313))
              have n7_ := Aside0.mk ((by rw [hg]; exact (below_size (by repeat (first | (with_reducible first | exact HB.out | apply below_alloc | apply pw_below_drewN | apply below_drew1 | refine below_set ?_ GE285.out | refine below_set ?_ GE286.out | refine below_set ?_ GE287.out | refine below_set ?_ GE300.out) | exact HB.out))) : w.heap.size ≤ gb313))
              have n8_ := Aside0.mk ((by rw [hg]; exact Nat.ne_of_lt (blk_lt (g := gb285) (o := .cells #[.bool a1_0, .int .i64 a1_1, .int .i64 a1_2] 27 (0, 0)) (by (with_reducible repeat (first | refine blk_drewN ?_ _ | refine blk_drew ?_ | refine blk_alloc ?_ _)); exact BK285.out)) : gb285 ≠ gb313))
              have n9_ := Aside0.mk ((by rw [hg]; exact Nat.ne_of_gt (blk_lt (g := gb285) (o := .cells #[.bool a1_0, .int .i64 a1_1, .int .i64 a1_2] 27 (0, 0)) (by (with_reducible repeat (first | refine blk_drewN ?_ _ | refine blk_drew ?_ | refine blk_alloc ?_ _)); exact BK285.out)) : gb313 ≠ gb285))
              have n10_ := Aside0.mk ((by rw [hg]; exact Nat.ne_of_lt (blk_lt (g := gb286) (o := .cells #[.bool a2_0, .int .i64 a2_1, .int .i64 a2_2] 27 (0, 0)) (by (with_reducible repeat (first | refine blk_drewN ?_ _ | refine blk_drew ?_ | refine blk_alloc ?_ _)); exact BK286.out)) : gb286 ≠ gb313))
              have n11_ := Aside0.mk ((by rw [hg]; exact Nat.ne_of_gt (blk_lt (g := gb286) (o := .cells #[.bool a2_0, .int .i64 a2_1, .int .i64 a2_2] 27 (0, 0)) (by (with_reducible repeat (first | refine blk_drewN ?_ _ | refine blk_drew ?_ | refine blk_alloc ?_ _)); exact BK286.out)) : gb313 ≠ gb286))
              have n12_ := Aside0.mk ((by rw [hg]; exact Nat.ne_of_lt (blk_lt (g := gb287) (o := .cells #[.bool a3_0, .int .i64 a3_1, .int .i64 a3_2] 27 (0, 0)) (by (with_reducible repeat (first | refine blk_drewN ?_ _ | refine blk_drew ?_ | refine blk_alloc ?_ _)); exact BK287.out)) : gb287 ≠ gb313))
              have n13_ := Aside0.mk ((by rw [hg]; exact Nat.ne_of_gt (blk_lt (g := gb287) (o := .cells #[.bool a3_0, .int .i64 a3_1, .int .i64 a3_2] 27 (0, 0)) (by (with_reducible repeat (first | refine blk_drewN ?_ _ | refine blk_drew ?_ | refine blk_alloc ?_ _)); exact BK287.out)) : gb313 ≠ gb287))
              have n14_ := Aside0.mk ((by rw [hg]; exact Nat.ne_of_lt (blk_lt (g := gb300) (o := .cells #[.bool t297, .int .i64 t298, .int .i64 t299] 23 (0, 0)) (by (with_reducible repeat (first | refine blk_drewN ?_ _ | refine blk_drew ?_ | refine blk_alloc ?_ _)); exact BK300.out)) : gb300 ≠ gb313))
              have n15_ := Aside0.mk ((by rw [hg]; exact Nat.ne_of_gt (blk_lt (g := gb300) (o := .cells #[.bool t297, .int .i64 t298, .int .i64 t299] 23 (0, 0)) (by (with_reducible repeat (first | refine blk_drewN ?_ _ | refine blk_drew ?_ | refine blk_alloc ?_ _)); exact BK300.out)) : gb313 ≠ gb300))
              clear BK285
              clear BK286
              clear BK287
              clear BK300
              clear HB
              have BK285 := n0_
              have BK286 := n1_
              have BK287 := n2_
              have BK300 := n3_
              have HB := n4_
              have BK313 := n5_
              have GW313 := n6_
              have GE313 := n7_
              have NB285_313 := n8_
              have NB313_285 := n9_
              have NB286_313 := n10_
              have NB313_286 := n11_
              have NB287_313 := n12_
              have NB313_287 := n13_
              have NB300_313 := n14_
              have NB313_300 := n15_
              clear n0_ n1_ n2_ n3_ n4_ n5_ n6_ n7_ n8_ n9_ n10_ n11_ n12_ n13_ n14_ n15_
              clear hb hbox hg
              refine hK.out _ _ ⟨(blk_cell BK285.out 0).trans rfl, (blk_cell BK285.out 1).trans rfl, (blk_cell BK285.out 2).trans rfl, (blk_cell BK286.out 0).trans rfl, (blk_cell BK286.out 1).trans rfl, (blk_cell BK286.out 2).trans rfl, (blk_cell BK287.out 0).trans rfl, (blk_cell BK287.out 1).trans rfl, (blk_cell BK287.out 2).trans rfl⟩ (fun hHeld => ?_)
              clear hK K
              refine norm_ (a' := ?_) ?_ ?_
              rotate_left
              · show Act.put _ (some 10) _ = _
                simp only [Act.put, List.setIfInBounds_toArray, List.set_cons_zero, List.set_cons_succ, i64_w, i32_w]
                rfl
              exact norm_ (by first | (simp only [putAll, Act.put, List.setIfInBounds_toArray, List.set_cons_zero, List.set_cons_succ]; done) | (simp only [putAll, Act.put, List.setIfInBounds_toArray, List.set_cons_zero, List.set_cons_succ]; rfl)) (hJ2_4_6_8 (gb313) _ ⟨hHeld, (by (with_reducible repeat (first | refine blk_drewN ?_ _ | refine blk_drew ?_ | refine blk_alloc ?_ _)); exact BK285.out), (by (with_reducible repeat (first | refine blk_drewN ?_ _ | refine blk_drew ?_ | refine blk_alloc ?_ _)); exact BK286.out), (by (with_reducible repeat (first | refine blk_drewN ?_ _ | refine blk_drew ?_ | refine blk_alloc ?_ _)); exact BK287.out), (by (with_reducible repeat (first | refine blk_drewN ?_ _ | refine blk_drew ?_ | refine blk_alloc ?_ _)); exact BK300.out), (by (with_reducible repeat (first | refine blk_drewN ?_ _ | refine blk_drew ?_ | refine blk_alloc ?_ _)); exact BK313.out), GW313.out, GE313.out, NB285_313.out, NB313_285.out, NB286_313.out, NB313_286.out, NB287_313.out, NB313_287.out, NB300_313.out, NB313_300.out, (by repeat (first | (with_reducible first | exact HB.out | apply below_alloc | apply pw_below_drewN | apply below_drew1 | refine below_set ?_ GE285.out | refine below_set ?_ GE286.out | refine below_set ?_ GE287.out | refine below_set ?_ GE300.out | refine below_set ?_ GE313.out) | exact HB.out))⟩)
        · skip
          rintro gb313 w34 ⟨hS_, h0_, h1_, h2_, h3_, h4_, h5_, h6_, h7_, h8_, h9_, h10_, h11_, h12_, h13_, h14_, h15_⟩
          have n0_ : Aside0 (w34.heap[gb285]? = some (.cells #[.bool a1_0, .int .i64 a1_1, .int .i64 a1_2] 27 (0, 0))) := ⟨h0_⟩
          have n1_ : Aside0 (w34.heap[gb286]? = some (.cells #[.bool a2_0, .int .i64 a2_1, .int .i64 a2_2] 27 (0, 0))) := ⟨h1_⟩
          have n2_ : Aside0 (w34.heap[gb287]? = some (.cells #[.bool a3_0, .int .i64 a3_1, .int .i64 a3_2] 27 (0, 0))) := ⟨h2_⟩
          have n3_ : Aside0 (w34.heap[gb300]? = some (.cells #[.bool t297, .int .i64 t298, .int .i64 t299] 23 (0, 0))) := ⟨h3_⟩
          have n4_ : Aside0 (w34.heap[gb313]? = some (.cells #[.bool false, .int .i64 0, .int .i64 0] 23 (0, 0))) := ⟨h4_⟩
          have n5_ : Aside0 (w.heap.size ≤ gb313) := ⟨h5_⟩
          have n6_ : Aside0 (w.heap.size ≤ gb313) := ⟨h6_⟩
          have n7_ : Aside0 (gb285 ≠ gb313) := ⟨h7_⟩
          have n8_ : Aside0 (gb313 ≠ gb285) := ⟨h8_⟩
          have n9_ : Aside0 (gb286 ≠ gb313) := ⟨h9_⟩
          have n10_ : Aside0 (gb313 ≠ gb286) := ⟨h10_⟩
          have n11_ : Aside0 (gb287 ≠ gb313) := ⟨h11_⟩
          have n12_ : Aside0 (gb313 ≠ gb287) := ⟨h12_⟩
          have n13_ : Aside0 (gb300 ≠ gb313) := ⟨h13_⟩
          have n14_ : Aside0 (gb313 ≠ gb300) := ⟨h14_⟩
          have n15_ : Aside0 (Below w.heap.size w w34) := ⟨h15_⟩
          clear BK285
          clear BK286
          clear BK287
          clear BK300
          clear HB
          clear h0_ h1_ h2_ h3_ h4_ h5_ h6_ h7_ h8_ h9_ h10_ h11_ h12_ h13_ h14_ h15_
          have BK285 := n0_
          have BK286 := n1_
          have BK287 := n2_
          have BK300 := n3_
          have BK313 := n4_
          have GW313 := n5_
          have GE313 := n6_
          have NB285_313 := n7_
          have NB313_285 := n8_
          have NB286_313 := n9_
          have NB313_286 := n10_
          have NB287_313 := n11_
          have NB313_287 := n12_
          have NB300_313 := n13_
          have NB313_300 := n14_
          have HB := n15_
          clear n0_ n1_ n2_ n3_ n4_ n5_ n6_ n7_ n8_ n9_ n10_ n11_ n12_ n13_ n14_ n15_
          have hHeld : w34.cell? ⟨gb285, 0, none⟩ = some (.bool a1_0) ∧ w34.cell? ⟨gb285, 1, none⟩ = some (.int .i64 a1_1) ∧ w34.cell? ⟨gb285, 2, none⟩ = some (.int .i64 a1_2) ∧ w34.cell? ⟨gb286, 0, none⟩ = some (.bool a2_0) ∧ w34.cell? ⟨gb286, 1, none⟩ = some (.int .i64 a2_1) ∧ w34.cell? ⟨gb286, 2, none⟩ = some (.int .i64 a2_2) ∧ w34.cell? ⟨gb287, 0, none⟩ = some (.bool a3_0) ∧ w34.cell? ⟨gb287, 1, none⟩ = some (.int .i64 a3_1) ∧ w34.cell? ⟨gb287, 2, none⟩ = some (.int .i64 a3_2) := hS_
          refine norm_ (a' := ?_) ?_ ?_
          rotate_left
          · simp only [putAll, Act.put, List.setIfInBounds_toArray, List.set_cons_zero, List.set_cons_succ]
            rfl
          refine one_ (i := 7) (N := some 26) #[true, true, true, true, true, true, true, true, true, false] rfl rfl (one_of HT_.out (by kernel_rfl)) (by decide) (fun K hK => ?_)
          refine goes_ Try.func36 (by kernel_rfl) rfl #[.int .i64 a0, .agg #[.bool t288, .int .i64 t289, .int .i64 t290], .agg #[.bool t291, .int .i64 t292, .int .i64 t293], .agg #[.bool t294, .int .i64 t295, .int .i64 t296]] (by rfl) rfl rfl (by (try simp only [List.map_toArray, List.map_cons, List.map_nil]); first | done | rfl | (simp only [List.length_drop, List.length_take]; rfl)) ?_
          with_reducible refine (impl_BackMax.calls k a0 t288 t289 t290 t291 t292 t293 t294 t295 t296 t310 t311 t312 _ A12.out).mono ?_
          rintro e w35 ⟨rfl, hb⟩
          refine ⟨_, rfl, ?_⟩
          have n0_ := Aside0.mk (blk_below (g := gb285) (o := .cells #[.bool a1_0, .int .i64 a1_1, .int .i64 a1_2] 27 (0, 0)) (by (with_reducible repeat (first | refine blk_drewN ?_ _ | refine blk_drew ?_ | refine blk_alloc ?_ _)); exact BK285.out) hb)
          have n1_ := Aside0.mk (blk_below (g := gb286) (o := .cells #[.bool a2_0, .int .i64 a2_1, .int .i64 a2_2] 27 (0, 0)) (by (with_reducible repeat (first | refine blk_drewN ?_ _ | refine blk_drew ?_ | refine blk_alloc ?_ _)); exact BK286.out) hb)
          have n2_ := Aside0.mk (blk_below (g := gb287) (o := .cells #[.bool a3_0, .int .i64 a3_1, .int .i64 a3_2] 27 (0, 0)) (by (with_reducible repeat (first | refine blk_drewN ?_ _ | refine blk_drew ?_ | refine blk_alloc ?_ _)); exact BK287.out) hb)
          have n3_ := Aside0.mk (blk_below (g := gb300) (o := .cells #[.bool t297, .int .i64 t298, .int .i64 t299] 23 (0, 0)) (by (with_reducible repeat (first | refine blk_drewN ?_ _ | refine blk_drew ?_ | refine blk_alloc ?_ _)); exact BK300.out) hb)
          have n4_ := Aside0.mk (blk_below (g := gb313) (o := .cells #[.bool false, .int .i64 0, .int .i64 0] 23 (0, 0)) (by (with_reducible repeat (first | refine blk_drewN ?_ _ | refine blk_drew ?_ | refine blk_alloc ?_ _)); exact BK313.out) hb)
          have n5_ := Aside0.mk (below_step (by repeat (first | (with_reducible first | exact HB.out | apply below_alloc | apply pw_below_drewN | apply below_drew1 | refine below_set ?_ GE285.out | refine below_set ?_ GE286.out | refine below_set ?_ GE287.out | refine below_set ?_ GE300.out | refine below_set ?_ GE313.out) | exact HB.out)) hb)
          clear BK285
          clear BK286
          clear BK287
          clear BK300
          clear BK313
          clear HB
          have BK285 := n0_
          have BK286 := n1_
          have BK287 := n2_
          have BK300 := n3_
          have BK313 := n4_
          have HB := n5_
          clear n0_ n1_ n2_ n3_ n4_ n5_
          (try clear hb)
          (try clear hb2)
          (try clear hk)
          (try clear hi)
          refine hK.out _ _ ⟨(blk_cell BK285.out 0).trans rfl, (blk_cell BK285.out 1).trans rfl, (blk_cell BK285.out 2).trans rfl, (blk_cell BK286.out 0).trans rfl, (blk_cell BK286.out 1).trans rfl, (blk_cell BK286.out 2).trans rfl, (blk_cell BK287.out 0).trans rfl, (blk_cell BK287.out 1).trans rfl, (blk_cell BK287.out 2).trans rfl⟩ (fun hHeld => ?_)
          clear hK K
          refine norm_ (a' := ?_) ?_ ?_
          rotate_left
          · show Act.put _ (some 26) _ = _
            simp only [Act.put, List.setIfInBounds_toArray, List.set_cons_zero, List.set_cons_succ, i64_w, i32_w]
            rfl
          exact norm_ (by first | (simp only [putAll, Act.put, List.setIfInBounds_toArray, List.set_cons_zero, List.set_cons_succ]; done) | (simp only [putAll, Act.put, List.setIfInBounds_toArray, List.set_cons_zero, List.set_cons_succ]; rfl)) (hJ2_4_6_7_8 (gb313) _ ⟨hHeld, (by (with_reducible repeat (first | refine blk_drewN ?_ _ | refine blk_drew ?_ | refine blk_alloc ?_ _)); exact BK285.out), (by (with_reducible repeat (first | refine blk_drewN ?_ _ | refine blk_drew ?_ | refine blk_alloc ?_ _)); exact BK286.out), (by (with_reducible repeat (first | refine blk_drewN ?_ _ | refine blk_drew ?_ | refine blk_alloc ?_ _)); exact BK287.out), (by (with_reducible repeat (first | refine blk_drewN ?_ _ | refine blk_drew ?_ | refine blk_alloc ?_ _)); exact BK300.out), (by (with_reducible repeat (first | refine blk_drewN ?_ _ | refine blk_drew ?_ | refine blk_alloc ?_ _)); exact BK313.out), GW313.out, GE313.out, NB285_313.out, NB313_285.out, NB286_313.out, NB313_286.out, NB287_313.out, NB313_287.out, NB300_313.out, NB313_300.out, (by repeat (first | (with_reducible first | exact HB.out | apply below_alloc | apply pw_below_drewN | apply below_drew1 | refine below_set ?_ GE285.out | refine below_set ?_ GE286.out | refine below_set ?_ GE287.out | refine below_set ?_ GE300.out | refine below_set ?_ GE313.out) | exact HB.out))⟩)
      · skip
        rintro _ w34 ⟨hS_, h0_, h1_, h2_, h3_, h4_⟩
        have n0_ : Aside0 (w34.heap[gb285]? = some (.cells #[.bool a1_0, .int .i64 a1_1, .int .i64 a1_2] 27 (0, 0))) := ⟨h0_⟩
        have n1_ : Aside0 (w34.heap[gb286]? = some (.cells #[.bool a2_0, .int .i64 a2_1, .int .i64 a2_2] 27 (0, 0))) := ⟨h1_⟩
        have n2_ : Aside0 (w34.heap[gb287]? = some (.cells #[.bool a3_0, .int .i64 a3_1, .int .i64 a3_2] 27 (0, 0))) := ⟨h2_⟩
        have n3_ : Aside0 (w34.heap[gb300]? = some (.cells #[.bool t297, .int .i64 t298, .int .i64 t299] 23 (0, 0))) := ⟨h3_⟩
        have n4_ : Aside0 (Below w.heap.size w w34) := ⟨h4_⟩
        clear BK285
        clear BK286
        clear BK287
        clear BK300
        clear HB
        clear h0_ h1_ h2_ h3_ h4_
        have BK285 := n0_
        have BK286 := n1_
        have BK287 := n2_
        have BK300 := n3_
        have HB := n4_
        clear n0_ n1_ n2_ n3_ n4_
        have hHeld : w34.cell? ⟨gb285, 0, none⟩ = some (.bool a1_0) ∧ w34.cell? ⟨gb285, 1, none⟩ = some (.int .i64 a1_1) ∧ w34.cell? ⟨gb285, 2, none⟩ = some (.int .i64 a1_2) ∧ w34.cell? ⟨gb286, 0, none⟩ = some (.bool a2_0) ∧ w34.cell? ⟨gb286, 1, none⟩ = some (.int .i64 a2_1) ∧ w34.cell? ⟨gb286, 2, none⟩ = some (.int .i64 a2_2) ∧ w34.cell? ⟨gb287, 0, none⟩ = some (.bool a3_0) ∧ w34.cell? ⟨gb287, 1, none⟩ = some (.int .i64 a3_1) ∧ w34.cell? ⟨gb287, 2, none⟩ = some (.int .i64 a3_2) := hS_
        refine norm_ (a' := ?_) ?_ ?_
        rotate_left
        · simp only [putAll, Act.put, List.setIfInBounds_toArray, List.set_cons_zero, List.set_cons_succ]
          rfl
        refine one_ (i := 8) (N := some 10) #[true, true, true, true, true, true, true, true, true, false] rfl rfl (one_of HT_.out (by kernel_rfl)) (by decide) (fun K hK => ?_)
        refine box_step ?hg (N := 10) ?hd (cs := #[.bool false, .int .i64 0, .int .i64 0]) (t := 23) ?hr ?_; (case hd => rfl); (case hg => rfl); (case hr => first | (go_simp; done) | (go_simp; rfl))
        intro gb313 hg w35 hbox hb
        have n0_ := Aside0.mk (blk_below (g := gb285) (o := .cells #[.bool a1_0, .int .i64 a1_1, .int .i64 a1_2] 27 (0, 0)) (by (with_reducible repeat (first | refine blk_drewN ?_ _ | refine blk_drew ?_ | refine blk_alloc ?_ _)); exact BK285.out) hb)
        have n1_ := Aside0.mk (blk_below (g := gb286) (o := .cells #[.bool a2_0, .int .i64 a2_1, .int .i64 a2_2] 27 (0, 0)) (by (with_reducible repeat (first | refine blk_drewN ?_ _ | refine blk_drew ?_ | refine blk_alloc ?_ _)); exact BK286.out) hb)
        have n2_ := Aside0.mk (blk_below (g := gb287) (o := .cells #[.bool a3_0, .int .i64 a3_1, .int .i64 a3_2] 27 (0, 0)) (by (with_reducible repeat (first | refine blk_drewN ?_ _ | refine blk_drew ?_ | refine blk_alloc ?_ _)); exact BK287.out) hb)
        have n3_ := Aside0.mk (blk_below (g := gb300) (o := .cells #[.bool t297, .int .i64 t298, .int .i64 t299] 23 (0, 0)) (by (with_reducible repeat (first | refine blk_drewN ?_ _ | refine blk_drew ?_ | refine blk_alloc ?_ _)); exact BK300.out) hb)
        have n4_ := Aside0.mk (below_step (by repeat (first | (with_reducible first | exact HB.out | apply below_alloc | apply pw_below_drewN | apply below_drew1 | refine below_set ?_ GE285.out | refine below_set ?_ GE286.out | refine below_set ?_ GE287.out | refine below_set ?_ GE300.out) | exact HB.out)) hb)
        have n5_ := Aside0.mk (hbox)
        have n6_ := Aside0.mk ((by rw [hg]; exact (below_size (by repeat (first | (with_reducible first | exact HB.out | apply below_alloc | apply pw_below_drewN | apply below_drew1 | refine below_set ?_ GE285.out | refine below_set ?_ GE286.out | refine below_set ?_ GE287.out | refine below_set ?_ GE300.out) | exact HB.out))) : w.heap.size ≤ gb313))
        have n7_ := Aside0.mk ((by rw [hg]; exact (below_size (by repeat (first | (with_reducible first | exact HB.out | apply below_alloc | apply pw_below_drewN | apply below_drew1 | refine below_set ?_ GE285.out | refine below_set ?_ GE286.out | refine below_set ?_ GE287.out | refine below_set ?_ GE300.out) | exact HB.out))) : w.heap.size ≤ gb313))
        have n8_ := Aside0.mk ((by rw [hg]; exact Nat.ne_of_lt (blk_lt (g := gb285) (o := .cells #[.bool a1_0, .int .i64 a1_1, .int .i64 a1_2] 27 (0, 0)) (by (with_reducible repeat (first | refine blk_drewN ?_ _ | refine blk_drew ?_ | refine blk_alloc ?_ _)); exact BK285.out)) : gb285 ≠ gb313))
        have n9_ := Aside0.mk ((by rw [hg]; exact Nat.ne_of_gt (blk_lt (g := gb285) (o := .cells #[.bool a1_0, .int .i64 a1_1, .int .i64 a1_2] 27 (0, 0)) (by (with_reducible repeat (first | refine blk_drewN ?_ _ | refine blk_drew ?_ | refine blk_alloc ?_ _)); exact BK285.out)) : gb313 ≠ gb285))
        have n10_ := Aside0.mk ((by rw [hg]; exact Nat.ne_of_lt (blk_lt (g := gb286) (o := .cells #[.bool a2_0, .int .i64 a2_1, .int .i64 a2_2] 27 (0, 0)) (by (with_reducible repeat (first | refine blk_drewN ?_ _ | refine blk_drew ?_ | refine blk_alloc ?_ _)); exact BK286.out)) : gb286 ≠ gb313))
        have n11_ := Aside0.mk ((by rw [hg]; exact Nat.ne_of_gt (blk_lt (g := gb286) (o := .cells #[.bool a2_0, .int .i64 a2_1, .int .i64 a2_2] 27 (0, 0)) (by (with_reducible repeat (first | refine blk_drewN ?_ _ | refine blk_drew ?_ | refine blk_alloc ?_ _)); exact BK286.out)) : gb313 ≠ gb286))
        have n12_ := Aside0.mk ((by rw [hg]; exact Nat.ne_of_lt (blk_lt (g := gb287) (o := .cells #[.bool a3_0, .int .i64 a3_1, .int .i64 a3_2] 27 (0, 0)) (by (with_reducible repeat (first | refine blk_drewN ?_ _ | refine blk_drew ?_ | refine blk_alloc ?_ _)); exact BK287.out)) : gb287 ≠ gb313))
        have n13_ := Aside0.mk ((by rw [hg]; exact Nat.ne_of_gt (blk_lt (g := gb287) (o := .cells #[.bool a3_0, .int .i64 a3_1, .int .i64 a3_2] 27 (0, 0)) (by (with_reducible repeat (first | refine blk_drewN ?_ _ | refine blk_drew ?_ | refine blk_alloc ?_ _)); exact BK287.out)) : gb313 ≠ gb287))
        have n14_ := Aside0.mk ((by rw [hg]; exact Nat.ne_of_lt (blk_lt (g := gb300) (o := .cells #[.bool t297, .int .i64 t298, .int .i64 t299] 23 (0, 0)) (by (with_reducible repeat (first | refine blk_drewN ?_ _ | refine blk_drew ?_ | refine blk_alloc ?_ _)); exact BK300.out)) : gb300 ≠ gb313))
        have n15_ := Aside0.mk ((by rw [hg]; exact Nat.ne_of_gt (blk_lt (g := gb300) (o := .cells #[.bool t297, .int .i64 t298, .int .i64 t299] 23 (0, 0)) (by (with_reducible repeat (first | refine blk_drewN ?_ _ | refine blk_drew ?_ | refine blk_alloc ?_ _)); exact BK300.out)) : gb313 ≠ gb300))
        clear BK285
        clear BK286
        clear BK287
        clear BK300
        clear HB
        have BK285 := n0_
        have BK286 := n1_
        have BK287 := n2_
        have BK300 := n3_
        have HB := n4_
        have BK313 := n5_
        have GW313 := n6_
        have GE313 := n7_
        have NB285_313 := n8_
        have NB313_285 := n9_
        have NB286_313 := n10_
        have NB313_286 := n11_
        have NB287_313 := n12_
        have NB313_287 := n13_
        have NB300_313 := n14_
        have NB313_300 := n15_
        clear n0_ n1_ n2_ n3_ n4_ n5_ n6_ n7_ n8_ n9_ n10_ n11_ n12_ n13_ n14_ n15_
        clear hb hbox hg
        refine hK.out _ _ ⟨(blk_cell BK285.out 0).trans rfl, (blk_cell BK285.out 1).trans rfl, (blk_cell BK285.out 2).trans rfl, (blk_cell BK286.out 0).trans rfl, (blk_cell BK286.out 1).trans rfl, (blk_cell BK286.out 2).trans rfl, (blk_cell BK287.out 0).trans rfl, (blk_cell BK287.out 1).trans rfl, (blk_cell BK287.out 2).trans rfl⟩ (fun hHeld => ?_)
        clear hK K
        refine norm_ (a' := ?_) ?_ ?_
        rotate_left
        · show Act.put _ (some 10) _ = _
          simp only [Act.put, List.setIfInBounds_toArray, List.set_cons_zero, List.set_cons_succ, i64_w, i32_w]
          rfl
        exact norm_ (by first | (simp only [putAll, Act.put, List.setIfInBounds_toArray, List.set_cons_zero, List.set_cons_succ]; done) | (simp only [putAll, Act.put, List.setIfInBounds_toArray, List.set_cons_zero, List.set_cons_succ]; rfl)) (hJ2_4_6_7_8 (gb313) _ ⟨hHeld, (by (with_reducible repeat (first | refine blk_drewN ?_ _ | refine blk_drew ?_ | refine blk_alloc ?_ _)); exact BK285.out), (by (with_reducible repeat (first | refine blk_drewN ?_ _ | refine blk_drew ?_ | refine blk_alloc ?_ _)); exact BK286.out), (by (with_reducible repeat (first | refine blk_drewN ?_ _ | refine blk_drew ?_ | refine blk_alloc ?_ _)); exact BK287.out), (by (with_reducible repeat (first | refine blk_drewN ?_ _ | refine blk_drew ?_ | refine blk_alloc ?_ _)); exact BK300.out), (by (with_reducible repeat (first | refine blk_drewN ?_ _ | refine blk_drew ?_ | refine blk_alloc ?_ _)); exact BK313.out), GW313.out, GE313.out, NB285_313.out, NB313_285.out, NB286_313.out, NB313_286.out, NB287_313.out, NB313_287.out, NB300_313.out, NB313_300.out, (by repeat (first | (with_reducible first | exact HB.out | apply below_alloc | apply pw_below_drewN | apply below_drew1 | refine below_set ?_ GE285.out | refine below_set ?_ GE286.out | refine below_set ?_ GE287.out | refine below_set ?_ GE300.out | refine below_set ?_ GE313.out) | exact HB.out))⟩)
    rintro gb313 w35 ⟨hS_, h0_, h1_, h2_, h3_, h4_, h5_, h6_, h7_, h8_, h9_, h10_, h11_, h12_, h13_, h14_, h15_⟩
    have n0_ : Aside0 (w35.heap[gb285]? = some (.cells #[.bool a1_0, .int .i64 a1_1, .int .i64 a1_2] 27 (0, 0))) := ⟨h0_⟩
    have n1_ : Aside0 (w35.heap[gb286]? = some (.cells #[.bool a2_0, .int .i64 a2_1, .int .i64 a2_2] 27 (0, 0))) := ⟨h1_⟩
    have n2_ : Aside0 (w35.heap[gb287]? = some (.cells #[.bool a3_0, .int .i64 a3_1, .int .i64 a3_2] 27 (0, 0))) := ⟨h2_⟩
    have n3_ : Aside0 (w35.heap[gb300]? = some (.cells #[.bool t297, .int .i64 t298, .int .i64 t299] 23 (0, 0))) := ⟨h3_⟩
    have n4_ : Aside0 (w35.heap[gb313]? = some (.cells #[.bool false, .int .i64 0, .int .i64 0] 23 (0, 0))) := ⟨h4_⟩
    have n5_ : Aside0 (w.heap.size ≤ gb313) := ⟨h5_⟩
    have n6_ : Aside0 (w.heap.size ≤ gb313) := ⟨h6_⟩
    have n7_ : Aside0 (gb285 ≠ gb313) := ⟨h7_⟩
    have n8_ : Aside0 (gb313 ≠ gb285) := ⟨h8_⟩
    have n9_ : Aside0 (gb286 ≠ gb313) := ⟨h9_⟩
    have n10_ : Aside0 (gb313 ≠ gb286) := ⟨h10_⟩
    have n11_ : Aside0 (gb287 ≠ gb313) := ⟨h11_⟩
    have n12_ : Aside0 (gb313 ≠ gb287) := ⟨h12_⟩
    have n13_ : Aside0 (gb300 ≠ gb313) := ⟨h13_⟩
    have n14_ : Aside0 (gb313 ≠ gb300) := ⟨h14_⟩
    have n15_ : Aside0 (Below w.heap.size w w35) := ⟨h15_⟩
    clear BK285
    clear BK286
    clear BK287
    clear BK300
    clear HB
    clear h0_ h1_ h2_ h3_ h4_ h5_ h6_ h7_ h8_ h9_ h10_ h11_ h12_ h13_ h14_ h15_
    have BK285 := n0_
    have BK286 := n1_
    have BK287 := n2_
    have BK300 := n3_
    have BK313 := n4_
    have GW313 := n5_
    have GE313 := n6_
    have NB285_313 := n7_
    have NB313_285 := n8_
    have NB286_313 := n9_
    have NB313_286 := n10_
    have NB287_313 := n11_
    have NB313_287 := n12_
    have NB300_313 := n13_
    have NB313_300 := n14_
    have HB := n15_
    clear n0_ n1_ n2_ n3_ n4_ n5_ n6_ n7_ n8_ n9_ n10_ n11_ n12_ n13_ n14_ n15_
    have hHeld : w35.cell? ⟨gb285, 0, none⟩ = some (.bool a1_0) ∧ w35.cell? ⟨gb285, 1, none⟩ = some (.int .i64 a1_1) ∧ w35.cell? ⟨gb285, 2, none⟩ = some (.int .i64 a1_2) ∧ w35.cell? ⟨gb286, 0, none⟩ = some (.bool a2_0) ∧ w35.cell? ⟨gb286, 1, none⟩ = some (.int .i64 a2_1) ∧ w35.cell? ⟨gb286, 2, none⟩ = some (.int .i64 a2_2) ∧ w35.cell? ⟨gb287, 0, none⟩ = some (.bool a3_0) ∧ w35.cell? ⟨gb287, 1, none⟩ = some (.int .i64 a3_1) ∧ w35.cell? ⟨gb287, 2, none⟩ = some (.int .i64 a3_2) := hS_
    refine norm_ (a' := ?_) ?_ ?_
    rotate_left
    · simp only [putAll, Act.put, List.setIfInBounds_toArray, List.set_cons_zero, List.set_cons_succ]
      rfl
    refine one_ (i := 9) (N := none) #[true, true, true, true, true, true, true, true, true, true] rfl rfl (one_of HT_.out (by kernel_rfl)) (by decide) (fun K hK => ?_)
    have hs36 : w35.cell? ⟨gb313, 0, none⟩ = some (.bool false) := (blk_cell BK313.out 0).trans rfl
    have hfs36 := blk_frozen BK313.out 0
    have hns36_0 := NB285_313.out
    have hns36_1 := NB286_313.out
    have hns36_2 := NB287_313.out
    have hns36_3 := NB300_313.out
    have hms36_0 := NB313_285.out
    have hms36_1 := NB313_286.out
    have hms36_2 := NB313_287.out
    have hms36_3 := NB313_300.out
    have hs37 : w35.cell? ⟨gb313, 1, none⟩ = some (.int .i64 0) := (blk_cell BK313.out 1).trans rfl
    have hfs37 := blk_frozen BK313.out 1
    have hns37_0 := NB285_313.out
    have hns37_1 := NB286_313.out
    have hns37_2 := NB287_313.out
    have hns37_3 := NB300_313.out
    have hms37_0 := NB313_285.out
    have hms37_1 := NB313_286.out
    have hms37_2 := NB313_287.out
    have hms37_3 := NB313_300.out
    have hs38 : w35.cell? ⟨gb313, 2, none⟩ = some (.int .i64 0) := (blk_cell BK313.out 2).trans rfl
    have hfs38 := blk_frozen BK313.out 2
    have hns38_0 := NB285_313.out
    have hns38_1 := NB286_313.out
    have hns38_2 := NB287_313.out
    have hns38_3 := NB300_313.out
    have hms38_0 := NB313_285.out
    have hms38_1 := NB313_286.out
    have hms38_2 := NB313_287.out
    have hms38_3 := NB313_300.out
    refine skip_ (w1 := ?_) (by rfl) rfl ?_ ?_
    rotate_left
    · go_simp
      rfl
    refine hK.out _ _ ⟨((cell_far (p := ⟨gb313, _, none⟩) NB285_313.out _).trans (((cell_far (p := ⟨gb313, _, none⟩) NB285_313.out _).trans (((cell_far (p := ⟨gb313, _, none⟩) NB285_313.out _).trans (hHeld.1)))))), ((cell_far (p := ⟨gb313, _, none⟩) NB285_313.out _).trans (((cell_far (p := ⟨gb313, _, none⟩) NB285_313.out _).trans (((cell_far (p := ⟨gb313, _, none⟩) NB285_313.out _).trans (hHeld.2.1)))))), ((cell_far (p := ⟨gb313, _, none⟩) NB285_313.out _).trans (((cell_far (p := ⟨gb313, _, none⟩) NB285_313.out _).trans (((cell_far (p := ⟨gb313, _, none⟩) NB285_313.out _).trans (hHeld.2.2.1)))))), ((cell_far (p := ⟨gb313, _, none⟩) NB286_313.out _).trans (((cell_far (p := ⟨gb313, _, none⟩) NB286_313.out _).trans (((cell_far (p := ⟨gb313, _, none⟩) NB286_313.out _).trans (hHeld.2.2.2.1)))))), ((cell_far (p := ⟨gb313, _, none⟩) NB286_313.out _).trans (((cell_far (p := ⟨gb313, _, none⟩) NB286_313.out _).trans (((cell_far (p := ⟨gb313, _, none⟩) NB286_313.out _).trans (hHeld.2.2.2.2.1)))))), ((cell_far (p := ⟨gb313, _, none⟩) NB286_313.out _).trans (((cell_far (p := ⟨gb313, _, none⟩) NB286_313.out _).trans (((cell_far (p := ⟨gb313, _, none⟩) NB286_313.out _).trans (hHeld.2.2.2.2.2.1)))))), ((cell_far (p := ⟨gb313, _, none⟩) NB287_313.out _).trans (((cell_far (p := ⟨gb313, _, none⟩) NB287_313.out _).trans (((cell_far (p := ⟨gb313, _, none⟩) NB287_313.out _).trans (hHeld.2.2.2.2.2.2.1)))))), ((cell_far (p := ⟨gb313, _, none⟩) NB287_313.out _).trans (((cell_far (p := ⟨gb313, _, none⟩) NB287_313.out _).trans (((cell_far (p := ⟨gb313, _, none⟩) NB287_313.out _).trans (hHeld.2.2.2.2.2.2.2.1)))))), ((cell_far (p := ⟨gb313, _, none⟩) NB287_313.out _).trans (((cell_far (p := ⟨gb313, _, none⟩) NB287_313.out _).trans (((cell_far (p := ⟨gb313, _, none⟩) NB287_313.out _).trans (hHeld.2.2.2.2.2.2.2.2))))))⟩ (fun hHeld => ?_)
    clear hK K
    refine done_ (done_of HT_.out (by kernel_rfl)) ?_
    have hnb39 := NB313_285.out
    have hnc39 := NB285_313.out
    have hnb40 := NB313_286.out
    have hnc40 := NB286_313.out
    have hnb41 := NB313_287.out
    have hnc41 := NB287_313.out
    have hnb42 := NB313_300.out
    have hnc42 := NB300_313.out
    have hcz43_0 : w35.cell? ⟨gb313, 0, none⟩ = some (.bool false) := (blk_cell BK313.out 0).trans rfl
    have hcz43_1 : w35.cell? ⟨gb313, 1, none⟩ = some (.int .i64 0) := (blk_cell BK313.out 1).trans rfl
    have hcz43_2 : w35.cell? ⟨gb313, 2, none⟩ = some (.int .i64 0) := (blk_cell BK313.out 2).trans rfl
    have hfz43_0 := blk_frozen BK313.out 0
    have hfz43_1 := blk_frozen BK313.out 1
    have hfz43_2 := blk_frozen BK313.out 2
    have hnb44 := NB300_285.out
    have hnc44 := NB285_300.out
    have hnb45 := NB300_286.out
    have hnc45 := NB286_300.out
    have hnb46 := NB300_287.out
    have hnc46 := NB287_300.out
    have hcz47_0 : w35.cell? ⟨gb300, 0, none⟩ = some (.bool t297) := (blk_cell BK300.out 0).trans rfl
    have hcz47_1 : w35.cell? ⟨gb300, 1, none⟩ = some (.int .i64 t298) := (blk_cell BK300.out 1).trans rfl
    have hcz47_2 : w35.cell? ⟨gb300, 2, none⟩ = some (.int .i64 t299) := (blk_cell BK300.out 2).trans rfl
    have hfz47_0 := blk_frozen BK300.out 0
    have hfz47_1 := blk_frozen BK300.out 1
    have hfz47_2 := blk_frozen BK300.out 2
    try go_wp2_with (first | ((with_reducible refine gate_callee (f := 17) rfl ?_); refine goesL_ (some 29) rfl rfl Try.func17 (by kernel_rfl) rfl #[.agg #[.bool t310, .int .i64 t311, .int .i64 t312], .agg #[.bool t297, .int .i64 t298, .int .i64 t299]] rfl (by (try simp only [List.map_toArray, List.map_cons, List.map_nil]); first | done | rfl | (simp only [List.length_drop, List.length_take]; rfl)) ?_; (with_reducible refine (laws_eqSpan.calls t310 t311 t312 t297 t298 t299 true _ A13.out).mono ?_); rintro e w48 ⟨rfl, hb⟩; refine ⟨_, rfl, ?_⟩; have n0_ := Aside0.mk (blk_below (g := gb285) (o := .cells #[.bool a1_0, .int .i64 a1_1, .int .i64 a1_2] 27 (0, 0)) (by (with_reducible repeat (first | refine blk_drewN ?_ _ | refine blk_drew ?_ | refine blk_alloc ?_ _)); refine blk_far ?_ NB285_313.out _; (with_reducible repeat (first | refine blk_drewN ?_ _ | refine blk_drew ?_ | refine blk_alloc ?_ _)); refine blk_far ?_ NB285_313.out _; (with_reducible repeat (first | refine blk_drewN ?_ _ | refine blk_drew ?_ | refine blk_alloc ?_ _)); refine blk_far ?_ NB285_313.out _; (with_reducible repeat (first | refine blk_drewN ?_ _ | refine blk_drew ?_ | refine blk_alloc ?_ _)); exact BK285.out) hb); have n1_ := Aside0.mk (blk_below (g := gb286) (o := .cells #[.bool a2_0, .int .i64 a2_1, .int .i64 a2_2] 27 (0, 0)) (by (with_reducible repeat (first | refine blk_drewN ?_ _ | refine blk_drew ?_ | refine blk_alloc ?_ _)); refine blk_far ?_ NB286_313.out _; (with_reducible repeat (first | refine blk_drewN ?_ _ | refine blk_drew ?_ | refine blk_alloc ?_ _)); refine blk_far ?_ NB286_313.out _; (with_reducible repeat (first | refine blk_drewN ?_ _ | refine blk_drew ?_ | refine blk_alloc ?_ _)); refine blk_far ?_ NB286_313.out _; (with_reducible repeat (first | refine blk_drewN ?_ _ | refine blk_drew ?_ | refine blk_alloc ?_ _)); exact BK286.out) hb); have n2_ := Aside0.mk (blk_below (g := gb287) (o := .cells #[.bool a3_0, .int .i64 a3_1, .int .i64 a3_2] 27 (0, 0)) (by (with_reducible repeat (first | refine blk_drewN ?_ _ | refine blk_drew ?_ | refine blk_alloc ?_ _)); refine blk_far ?_ NB287_313.out _; (with_reducible repeat (first | refine blk_drewN ?_ _ | refine blk_drew ?_ | refine blk_alloc ?_ _)); refine blk_far ?_ NB287_313.out _; (with_reducible repeat (first | refine blk_drewN ?_ _ | refine blk_drew ?_ | refine blk_alloc ?_ _)); refine blk_far ?_ NB287_313.out _; (with_reducible repeat (first | refine blk_drewN ?_ _ | refine blk_drew ?_ | refine blk_alloc ?_ _)); exact BK287.out) hb); have n3_ := Aside0.mk (blk_below (g := gb300) (o := .cells #[.bool t297, .int .i64 t298, .int .i64 t299] 23 (0, 0)) (by (with_reducible repeat (first | refine blk_drewN ?_ _ | refine blk_drew ?_ | refine blk_alloc ?_ _)); refine blk_far ?_ NB300_313.out _; (with_reducible repeat (first | refine blk_drewN ?_ _ | refine blk_drew ?_ | refine blk_alloc ?_ _)); refine blk_far ?_ NB300_313.out _; (with_reducible repeat (first | refine blk_drewN ?_ _ | refine blk_drew ?_ | refine blk_alloc ?_ _)); refine blk_far ?_ NB300_313.out _; (with_reducible repeat (first | refine blk_drewN ?_ _ | refine blk_drew ?_ | refine blk_alloc ?_ _)); exact BK300.out) hb); have n4_ := Aside0.mk (blk_below (g := gb313) (o := .cells #[.bool t310, .int .i64 t311, .int .i64 t312] 23 (0, 0)) (by (with_reducible repeat (first | refine blk_drewN ?_ _ | refine blk_drew ?_ | refine blk_alloc ?_ _)); refine blk_put (cs := #[.bool t310, .int .i64 t311, .int .i64 0]) ?_ 2 _ rfl; (with_reducible repeat (first | refine blk_drewN ?_ _ | refine blk_drew ?_ | refine blk_alloc ?_ _)); refine blk_put (cs := #[.bool t310, .int .i64 0, .int .i64 0]) ?_ 1 _ rfl; (with_reducible repeat (first | refine blk_drewN ?_ _ | refine blk_drew ?_ | refine blk_alloc ?_ _)); refine blk_put (cs := #[.bool false, .int .i64 0, .int .i64 0]) ?_ 0 _ rfl; (with_reducible repeat (first | refine blk_drewN ?_ _ | refine blk_drew ?_ | refine blk_alloc ?_ _)); exact BK313.out) hb); have n5_ := Aside0.mk (below_step (by repeat (first | (with_reducible first | exact HB.out | apply below_alloc | apply pw_below_drewN | apply below_drew1 | refine below_set ?_ GE285.out | refine below_set ?_ GE286.out | refine below_set ?_ GE287.out | refine below_set ?_ GE300.out | refine below_set ?_ GE313.out) | exact HB.out)) hb); clear BK285; clear BK286; clear BK287; clear BK300; clear BK313; clear HB; have BK285 := n0_; have BK286 := n1_; have BK287 := n2_; have BK300 := n3_; have BK313 := n4_; have HB := n5_; clear n0_ n1_ n2_ n3_ n4_ n5_; (try clear hb); (try clear hb2); (try clear hk); (try clear hi)))
    go_ret
    exact ⟨by first | rfl | (simp [errW_none, errW_some] <;> rfl) | (simp [*, errW_none, errW_some] <;> rfl), by repeat (first | (with_reducible first | exact HB.out | apply below_alloc | apply pw_below_drewN | apply below_drew1 | refine below_set ?_ GE285.out | refine below_set ?_ GE286.out | refine below_set ?_ GE287.out | refine below_set ?_ GE300.out | refine below_set ?_ GE313.out) | exact HB.out)⟩
  · replace c14 := Bool.eq_false_iff.mpr c14
    subst c14
    have H1 : (some false) = some r := by rw [if_neg (show ¬ (false = true) by decide)] at H; exact H
    clear H
    have H := H1
    clear H1
    exact absurd (hr.out.trans (Option.some.inj H).symm) (by decide)

/-- The one plain statement of laws_FnExactBackMax. -/
def laws_FnExactBackMax.Pure : Prop := ∀ (a0 : Int) (a1_0 : Bool) (a1_1 : Int) (a1_2 : Int) (a2_0 : Bool) (a2_1 : Int) (a2_2 : Int) (a3_0 : Bool) (a3_1 : Int) (a3_2 : Int), (Lit.int .i64 a0).wf = true → (Lit.int .i64 a1_1).wf = true → (Lit.int .i64 a1_2).wf = true → (Lit.int .i64 a2_1).wf = true → (Lit.int .i64 a2_2).wf = true → (Lit.int .i64 a3_1).wf = true → (Lit.int .i64 a3_2).wf = true → ∃ k, laws_FnExactBackMax.f k a0 a1_0 a1_1 a1_2 a2_0 a2_1 a2_2 a3_0 a3_1 a3_2 = some true
theorem laws_FnExactBackMax.walk (P : laws_FnExactBackMax.Pure) (a0 : Int) (a1_0 : Bool) (a1_1 : Int) (a1_2 : Int) (a2_0 : Bool) (a2_1 : Int) (a2_2 : Int) (a3_0 : Bool) (a3_1 : Int) (a3_2 : Int) (w : World) (w0 : (Lit.int .i64 a0).wf = true) (w1_1 : (Lit.int .i64 a1_1).wf = true) (w1_2 : (Lit.int .i64 a1_2).wf = true) (w2_1 : (Lit.int .i64 a2_1).wf = true) (w2_2 : (Lit.int .i64 a2_2).wf = true) (w3_1 : (Lit.int .i64 a3_1).wf = true) (w3_2 : (Lit.int .i64 a3_2).wf = true) :
    Calls Try.prog 12 #[.int .i64 a0, .agg #[.bool a1_0, .int .i64 a1_1, .int .i64 a1_2], .agg #[.bool a2_0, .int .i64 a2_1, .int .i64 a2_2], .agg #[.bool a3_0, .int .i64 a3_1, .int .i64 a3_2]] w fun e w' => e = .returned (.bool true) ∧ Below w.heap.size w w' := by
  obtain ⟨k, h⟩ := P a0 a1_0 a1_1 a1_2 a2_0 a2_1 a2_2 a3_0 a3_1 a3_2 w0 w1_1 w1_2 w2_1 w2_2 w3_1 w3_2
  refine (laws_FnExactBackMax.calls k a0 a1_0 a1_1 a1_2 a2_0 a2_1 a2_2 a3_0 a3_1 a3_2 true w  h (Aside0.mk rfl)).mono ?_
  rintro e w' ⟨rfl, hd⟩
  exact ⟨rfl, hd⟩

end Go.Proofs.Ytjiaanjbgibciaa.QFnExactBackMax
