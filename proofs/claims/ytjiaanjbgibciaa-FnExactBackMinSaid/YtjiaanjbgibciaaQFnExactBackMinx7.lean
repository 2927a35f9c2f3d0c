/- The machine side of one law: each function and the law itself walked once, written by a program of this session (wip/xprint.py) that runs the printer of the kit.
   Conditions: none. -/
import Derived.Test.YtjiaanjbgibciaaQFnExactBackMinx0
import Derived.Test.YtjiaanjbgibciaaQFnExactBackMinx2
import Derived.Test.YtjiaanjbgibciaaQFnExactBackMinx5
import Derived.Test.YtjiaanjbgibciaaQFnExactBackMinx6
namespace Go.Proofs.Ytjiaanjbgibciaa.QFnExactBackMin
open Go.RowKit Go.Proofs.YtjiaanjbgibciaaW.PrintWords Go.Proofs.YtjiaanjbgibciaaW.PrintLast Go.Proofs.YtjiaanjbgibciaaW.PrintMore
attribute [local go_sem] max2_int min2_int max_two min_two max_three min_three max_four min_four   -- for this text's walks alone
set_option linter.unusedVariables false
set_option linter.unusedSimpArgs false

/-! ### laws_FnExactBackMin: function 11 -/
def laws_FnExactBackMin.f (k : Nat) (a0 : Int) (a1_0 : Bool) (a1_1 : Int) (a1_2 : Int) (a2_0 : Bool) (a2_1 : Int) (a2_2 : Int) (a3_0 : Bool) (a3_1 : Int) (a3_2 : Int) : Option (Bool) := (laws_toSpan.f a1_0 a1_1 a1_2).bind fun bt235 => ((laws_toSpan.f a2_0 a2_1 a2_2).bind fun bt238 => ((laws_toSpan.f a3_0 a3_1 a3_2).bind fun bt241 => ((spec_BackMin.f k a0 bt235.1 bt235.2.1 bt235.2.2 bt238.1 bt238.2.1 bt238.2.2 bt241.1 bt241.2.1 bt241.2.2).bind fun bt244 => ((laws_toSpan.f a1_0 a1_1 a1_2).bind fun bt248 => ((laws_toSpan.f a2_0 a2_1 a2_2).bind fun bt251 => ((laws_toSpan.f a3_0 a3_1 a3_2).bind fun bt254 => ((impl_BackMin.f k a0 bt248.1 bt248.2.1 bt248.2.2 bt251.1 bt251.2.1 bt251.2.2 bt254.1 bt254.2.1 bt254.2.2).bind fun bt257 => ((laws_eqSpan.f bt257.1 bt257.2.1 bt257.2.2 bt244.1 bt244.2.1 bt244.2.2).bind fun t261 => (if t261 = true then (some true) else (some false))))))))))
theorem laws_FnExactBackMin.mono : ∀ a0 a1 a2 a3 a4 a5 a6 a7 a8 a9 k, LeO (laws_FnExactBackMin.f k a0 a1 a2 a3 a4 a5 a6 a7 a8 a9) (laws_FnExactBackMin.f (k + 1) a0 a1 a2 a3 a4 a5 a6 a7 a8 a9) := by
  intro a0 a1 a2 a3 a4 a5 a6 a7 a8 a9 k
  unfold laws_FnExactBackMin.f
  repeat' first
      | (with_reducible exact impl_BackMin.mono _ _ _ _ _ _ _ _ _ _ _)
      | (with_reducible exact spec_BackMin.mono _ _ _ _ _ _ _ _ _ _ _)
      | (with_reducible exact LeO.refl _)
      | (with_reducible exact LeO.none _)
      | (with_reducible refine LeO.ite ?_ ?_)
      | (with_reducible refine LeO.bind ?_ (fun _ => ?_))
      | exact impl_BackMin.mono _ _ _ _ _ _ _ _ _ _ _
      | exact spec_BackMin.mono _ _ _ _ _ _ _ _ _ _ _
      | exact LeO.none _
      | refine LeO.ite ?_ ?_
      | refine LeO.bind ?_ (fun _ => ?_)
def laws_FnExactBackMin.T1 : Bool × List (List Nat × List Nat) := (true, [([], []), ([], []), ([1], [1]), ([], []), ([3, 2], [3]), ([], []), ([5, 4], [5]), ([0, 2, 4, 6, 6], [0, 2, 4, 6]), ([], []), ([8, 7, 7, 0, 1, 2, 3, 4, 5, 6, 7, 8], [7, 8])])
def laws_FnExactBackMin.B1 : List Nat := [0, 0, 2, 0, 14, 0, 62, 127, 0, 511]
theorem laws_FnExactBackMin.tab1 : rtab .any (opsOf Try.f11 1) = laws_FnExactBackMin.T1 := by kernel_rfl
theorem laws_FnExactBackMin.bits1 : waitsOk laws_FnExactBackMin.T1.2 laws_FnExactBackMin.B1 = true := by kernel_rfl
def laws_FnExactBackMin.T2 : Bool × List (List Nat × List Nat) := (true, [([], []), ([], []), ([1], [1]), ([], []), ([3, 2], [3]), ([], []), ([5, 4], [5]), ([0, 2, 4, 6, 6], [0, 2, 4, 6]), ([], []), ([8, 7, 7, 0, 1, 2, 3, 4, 5, 6, 7, 8], [7, 8])])
def laws_FnExactBackMin.B2 : List Nat := [0, 0, 2, 0, 14, 0, 62, 127, 0, 511]
theorem laws_FnExactBackMin.tab2 : rtab .any (opsOf Try.f11 2) = laws_FnExactBackMin.T2 := by kernel_rfl
theorem laws_FnExactBackMin.bits2 : waitsOk laws_FnExactBackMin.T2.2 laws_FnExactBackMin.B2 = true := by kernel_rfl
set_option maxHeartbeats 8000000 in
set_option maxRecDepth 100000 in
theorem laws_FnExactBackMin.calls (k : Nat) (a0 : Int) (a1_0 : Bool) (a1_1 : Int) (a1_2 : Int) (a2_0 : Bool) (a2_1 : Int) (a2_2 : Int) (a3_0 : Bool) (a3_1 : Int) (a3_2 : Int) (r : Bool) (w : World) (h : laws_FnExactBackMin.f k a0 a1_0 a1_1 a1_2 a2_0 a2_1 a2_2 a3_0 a3_1 a3_2 = some r) (hr : Aside0 (true = r)) :
    Calls Try.prog 11 #[.int .i64 a0, .agg #[.bool a1_0, .int .i64 a1_1, .int .i64 a1_2], .agg #[.bool a2_0, .int .i64 a2_1, .int .i64 a2_2], .agg #[.bool a3_0, .int .i64 a3_1, .int .i64 a3_2]] w fun e w' => e = .returned (.bool r) ∧ Below w.heap.size w w' := by
  have hu27 := Try.underlying27
  have hu23 := Try.underlying23
  have HB := Aside0.mk (Below.refl w.heap.size w)
  have H : ((laws_toSpan.f a1_0 a1_1 a1_2).bind fun bt235 => ((laws_toSpan.f a2_0 a2_1 a2_2).bind fun bt238 => ((laws_toSpan.f a3_0 a3_1 a3_2).bind fun bt241 => ((spec_BackMin.f k a0 bt235.1 bt235.2.1 bt235.2.2 bt238.1 bt238.2.1 bt238.2.2 bt241.1 bt241.2.1 bt241.2.2).bind fun bt244 => ((laws_toSpan.f a1_0 a1_1 a1_2).bind fun bt248 => ((laws_toSpan.f a2_0 a2_1 a2_2).bind fun bt251 => ((laws_toSpan.f a3_0 a3_1 a3_2).bind fun bt254 => ((impl_BackMin.f k a0 bt248.1 bt248.2.1 bt248.2.2 bt251.1 bt251.2.1 bt251.2.2 bt254.1 bt254.2.1 bt254.2.2).bind fun bt257 => ((laws_eqSpan.f bt257.1 bt257.2.1 bt257.2.2 bt244.1 bt244.2.1 bt244.2.2).bind fun t261 => (if t261 = true then (some true) else (some false))))))))))) = some r := h
  clear h
  replace H := Option.bind_eq_some_iff.mp H
  obtain ⟨⟨t235, t236, t237⟩, A50, H⟩ := H
  replace H : ((laws_toSpan.f a2_0 a2_1 a2_2).bind fun bt238 => ((laws_toSpan.f a3_0 a3_1 a3_2).bind fun bt241 => ((spec_BackMin.f k a0 t235 t236 t237 bt238.1 bt238.2.1 bt238.2.2 bt241.1 bt241.2.1 bt241.2.2).bind fun bt244 => ((laws_toSpan.f a1_0 a1_1 a1_2).bind fun bt248 => ((laws_toSpan.f a2_0 a2_1 a2_2).bind fun bt251 => ((laws_toSpan.f a3_0 a3_1 a3_2).bind fun bt254 => ((impl_BackMin.f k a0 bt248.1 bt248.2.1 bt248.2.2 bt251.1 bt251.2.1 bt251.2.2 bt254.1 bt254.2.1 bt254.2.2).bind fun bt257 => ((laws_eqSpan.f bt257.1 bt257.2.1 bt257.2.2 bt244.1 bt244.2.1 bt244.2.2).bind fun t261 => (if t261 = true then (some true) else (some false)))))))))) = some r := H
  have A5 := Aside0.mk A50
  clear A50
  replace H := Option.bind_eq_some_iff.mp H
  obtain ⟨⟨t238, t239, t240⟩, A60, H⟩ := H
  replace H : ((laws_toSpan.f a3_0 a3_1 a3_2).bind fun bt241 => ((spec_BackMin.f k a0 t235 t236 t237 t238 t239 t240 bt241.1 bt241.2.1 bt241.2.2).bind fun bt244 => ((laws_toSpan.f a1_0 a1_1 a1_2).bind fun bt248 => ((laws_toSpan.f a2_0 a2_1 a2_2).bind fun bt251 => ((laws_toSpan.f a3_0 a3_1 a3_2).bind fun bt254 => ((impl_BackMin.f k a0 bt248.1 bt248.2.1 bt248.2.2 bt251.1 bt251.2.1 bt251.2.2 bt254.1 bt254.2.1 bt254.2.2).bind fun bt257 => ((laws_eqSpan.f bt257.1 bt257.2.1 bt257.2.2 bt244.1 bt244.2.1 bt244.2.2).bind fun t261 => (if t261 = true then (some true) else (some false))))))))) = some r := H
  have A6 := Aside0.mk A60
  clear A60
  replace H := Option.bind_eq_some_iff.mp H
  obtain ⟨⟨t241, t242, t243⟩, A70, H⟩ := H
  replace H : ((spec_BackMin.f k a0 t235 t236 t237 t238 t239 t240 t241 t242 t243).bind fun bt244 => ((laws_toSpan.f a1_0 a1_1 a1_2).bind fun bt248 => ((laws_toSpan.f a2_0 a2_1 a2_2).bind fun bt251 => ((laws_toSpan.f a3_0 a3_1 a3_2).bind fun bt254 => ((impl_BackMin.f k a0 bt248.1 bt248.2.1 bt248.2.2 bt251.1 bt251.2.1 bt251.2.2 bt254.1 bt254.2.1 bt254.2.2).bind fun bt257 => ((laws_eqSpan.f bt257.1 bt257.2.1 bt257.2.2 bt244.1 bt244.2.1 bt244.2.2).bind fun t261 => (if t261 = true then (some true) else (some false)))))))) = some r := H
  have A7 := Aside0.mk A70
  clear A70
  replace H := Option.bind_eq_some_iff.mp H
  obtain ⟨⟨t244, t245, t246⟩, A80, H⟩ := H
  replace H : ((laws_toSpan.f a1_0 a1_1 a1_2).bind fun bt248 => ((laws_toSpan.f a2_0 a2_1 a2_2).bind fun bt251 => ((laws_toSpan.f a3_0 a3_1 a3_2).bind fun bt254 => ((impl_BackMin.f k a0 bt248.1 bt248.2.1 bt248.2.2 bt251.1 bt251.2.1 bt251.2.2 bt254.1 bt254.2.1 bt254.2.2).bind fun bt257 => ((laws_eqSpan.f bt257.1 bt257.2.1 bt257.2.2 t244 t245 t246).bind fun t261 => (if t261 = true then (some true) else (some false))))))) = some r := H
  have A8 := Aside0.mk A80
  clear A80
  replace H := Option.bind_eq_some_iff.mp H
  obtain ⟨⟨t248, t249, t250⟩, A90, H⟩ := H
  replace H : ((laws_toSpan.f a2_0 a2_1 a2_2).bind fun bt251 => ((laws_toSpan.f a3_0 a3_1 a3_2).bind fun bt254 => ((impl_BackMin.f k a0 t248 t249 t250 bt251.1 bt251.2.1 bt251.2.2 bt254.1 bt254.2.1 bt254.2.2).bind fun bt257 => ((laws_eqSpan.f bt257.1 bt257.2.1 bt257.2.2 t244 t245 t246).bind fun t261 => (if t261 = true then (some true) else (some false)))))) = some r := H
  have A9 := Aside0.mk A90
  clear A90
  have e_ := Option.some.inj (A5.out.symm.trans A9.out)
  simp only [Prod.mk.injEq] at e_
  obtain ⟨rfl, rfl, rfl⟩ := e_
  replace H := Option.bind_eq_some_iff.mp H
  obtain ⟨⟨t251, t252, t253⟩, A100, H⟩ := H
  replace H : ((laws_toSpan.f a3_0 a3_1 a3_2).bind fun bt254 => ((impl_BackMin.f k a0 t235 t236 t237 t251 t252 t253 bt254.1 bt254.2.1 bt254.2.2).bind fun bt257 => ((laws_eqSpan.f bt257.1 bt257.2.1 bt257.2.2 t244 t245 t246).bind fun t261 => (if t261 = true then (some true) else (some false))))) = some r := H
  have A10 := Aside0.mk A100
  clear A100
  have e_ := Option.some.inj (A6.out.symm.trans A10.out)
  simp only [Prod.mk.injEq] at e_
  obtain ⟨rfl, rfl, rfl⟩ := e_
  replace H := Option.bind_eq_some_iff.mp H
  obtain ⟨⟨t254, t255, t256⟩, A110, H⟩ := H
  replace H : ((impl_BackMin.f k a0 t235 t236 t237 t238 t239 t240 t254 t255 t256).bind fun bt257 => ((laws_eqSpan.f bt257.1 bt257.2.1 bt257.2.2 t244 t245 t246).bind fun t261 => (if t261 = true then (some true) else (some false)))) = some r := H
  have A11 := Aside0.mk A110
  clear A110
  have e_ := Option.some.inj (A7.out.symm.trans A11.out)
  simp only [Prod.mk.injEq] at e_
  obtain ⟨rfl, rfl, rfl⟩ := e_
  replace H := Option.bind_eq_some_iff.mp H
  obtain ⟨⟨t257, t258, t259⟩, A120, H⟩ := H
  replace H : ((laws_eqSpan.f t257 t258 t259 t244 t245 t246).bind fun t261 => (if t261 = true then (some true) else (some false))) = some r := H
  have A12 := Aside0.mk A120
  clear A120
  replace H := Option.bind_eq_some_iff.mp H
  obtain ⟨t261, A130, H⟩ := H
  replace H : (if t261 = true then (some true) else (some false)) = some r := H
  have A13 := Aside0.mk A130
  clear A130
  by_cases c14 : t261 = true
  · subst c14
    have H1 : (some true) = some r := by rw [if_pos rfl] at H; exact H
    clear H
    have H := H1
    clear H1
    clear hr
    obtain rfl := Option.some.inj H
    go_enter Try.func11, Try.ntmps11
    try go_wp2_with (first | ((with_reducible refine gate_dst (N := 5) rfl ?_); refine box_event ?hg (N := 5) ?hd (cs := #[.bool a1_0, .int .i64 a1_1, .int .i64 a1_2]) (t := 27) ?hr ?_; (case hd => rfl); (case hg => rfl); (case hr => first | (go_simp; done) | (go_simp; rfl)); intro gb232 hg w15 hbox hb; have n0_ := Aside0.mk (below_step (by repeat (first | (with_reducible first | exact HB.out | apply below_alloc | apply pw_below_drewN | apply below_drew1) | exact HB.out)) hb); have n1_ := Aside0.mk (hbox); have n2_ := Aside0.mk ((by rw [hg]; exact (below_size (by repeat (first | (with_reducible first | exact HB.out | apply below_alloc | apply pw_below_drewN | apply below_drew1) | exact HB.out))) : w.heap.size ≤ gb232)); have n3_ := Aside0.mk ((by rw [hg]; exact (below_size (by repeat (first | (with_reducible first | exact HB.out | apply below_alloc | apply pw_below_drewN | apply below_drew1) | exact HB.out))) : w.heap.size ≤ gb232)); clear HB; have HB := n0_; have BK232 := n1_; have GW232 := n2_; have GE232 := n3_; clear n0_ n1_ n2_ n3_; clear hb hbox hg) | ((with_reducible refine gate_dst (N := 6) rfl ?_); refine box_event ?hg (N := 6) ?hd (cs := #[.bool a2_0, .int .i64 a2_1, .int .i64 a2_2]) (t := 27) ?hr ?_; (case hd => rfl); (case hg => rfl); (case hr => first | (go_simp; done) | (go_simp; rfl)); intro gb233 hg w16 hbox hb; have n0_ := Aside0.mk (blk_below (g := gb232) (o := .cells #[.bool a1_0, .int .i64 a1_1, .int .i64 a1_2] 27 (0, 0)) (by (with_reducible repeat (first | refine blk_drewN ?_ _ | refine blk_drew ?_ | refine blk_alloc ?_ _)); exact BK232.out) hb); have n1_ := Aside0.mk (below_step (by repeat (first | (with_reducible first | exact HB.out | apply below_alloc | apply pw_below_drewN | apply below_drew1 | refine below_set ?_ GE232.out) | exact HB.out)) hb); have n2_ := Aside0.mk (hbox); have n3_ := Aside0.mk ((by rw [hg]; exact (below_size (by repeat (first | (with_reducible first | exact HB.out | apply below_alloc | apply pw_below_drewN | apply below_drew1 | refine below_set ?_ GE232.out) | exact HB.out))) : w.heap.size ≤ gb233)); have n4_ := Aside0.mk ((by rw [hg]; exact (below_size (by repeat (first | (with_reducible first | exact HB.out | apply below_alloc | apply pw_below_drewN | apply below_drew1 | refine below_set ?_ GE232.out) | exact HB.out))) : w.heap.size ≤ gb233)); have n5_ := Aside0.mk ((by rw [hg]; exact Nat.ne_of_lt (blk_lt (g := gb232) (o := .cells #[.bool a1_0, .int .i64 a1_1, .int .i64 a1_2] 27 (0, 0)) (by (with_reducible repeat (first | refine blk_drewN ?_ _ | refine blk_drew ?_ | refine blk_alloc ?_ _)); exact BK232.out)) : gb232 ≠ gb233)); have n6_ := Aside0.mk ((by rw [hg]; exact Nat.ne_of_gt (blk_lt (g := gb232) (o := .cells #[.bool a1_0, .int .i64 a1_1, .int .i64 a1_2] 27 (0, 0)) (by (with_reducible repeat (first | refine blk_drewN ?_ _ | refine blk_drew ?_ | refine blk_alloc ?_ _)); exact BK232.out)) : gb233 ≠ gb232)); clear BK232; clear HB; have BK232 := n0_; have HB := n1_; have BK233 := n2_; have GW233 := n3_; have GE233 := n4_; have NB232_233 := n5_; have NB233_232 := n6_; clear n0_ n1_ n2_ n3_ n4_ n5_ n6_; clear hb hbox hg) | ((with_reducible refine gate_dst (N := 7) rfl ?_); refine box_event ?hg (N := 7) ?hd (cs := #[.bool a3_0, .int .i64 a3_1, .int .i64 a3_2]) (t := 27) ?hr ?_; (case hd => rfl); (case hg => rfl); (case hr => first | (go_simp; done) | (go_simp; rfl)); intro gb234 hg w17 hbox hb; have n0_ := Aside0.mk (blk_below (g := gb232) (o := .cells #[.bool a1_0, .int .i64 a1_1, .int .i64 a1_2] 27 (0, 0)) (by (with_reducible repeat (first | refine blk_drewN ?_ _ | refine blk_drew ?_ | refine blk_alloc ?_ _)); exact BK232.out) hb); have n1_ := Aside0.mk (blk_below (g := gb233) (o := .cells #[.bool a2_0, .int .i64 a2_1, .int .i64 a2_2] 27 (0, 0)) (by (with_reducible repeat (first | refine blk_drewN ?_ _ | refine blk_drew ?_ | refine blk_alloc ?_ _)); exact BK233.out) hb); have n2_ := Aside0.mk (below_step (by repeat (first | (with_reducible first | exact HB.out | apply below_alloc | apply pw_below_drewN | apply below_drew1 | refine below_set ?_ GE232.out | refine below_set ?_ GE233.out) | exact HB.out)) hb); have n3_ := Aside0.mk (hbox); have n4_ := Aside0.mk ((by rw [hg]; exact (below_size (by repeat (first | (with_reducible first | exact HB.out | apply below_alloc | apply pw_below_drewN | apply below_drew1 | refine below_set ?_ GE232.out | refine below_set ?_ GE233.out) | exact HB.out))) : w.heap.size ≤ gb234)); have n5_ := Aside0.mk ((by rw [hg]; exact (below_size (by repeat (first | (with_reducible first | exact HB.out | apply below_alloc | apply pw_below_drewN | apply below_drew1 | refine below_set ?_ GE232.out | refine below_set ?_ GE233.out) | exact HB.out))) : w.heap.size ≤ gb234)); have n6_ := Aside0.mk ((by rw [hg]; exact Nat.ne_of_lt (blk_lt (g := gb232) (o := .cells #[.bool a1_0, .int .i64 a1_1, .int .i64 a1_2] 27 (0, 0)) (by (with_reducible repeat (first | refine blk_drewN ?_ _ | refine blk_drew ?_ | refine blk_alloc ?_ _)); exact BK232.out)) : gb232 ≠ gb234)); have n7_ := Aside0.mk ((by rw [hg]; exact Nat.ne_of_gt (blk_lt (g := gb232) (o := .cells #[.bool a1_0, .int .i64 a1_1, .int .i64 a1_2] 27 (0, 0)) (by (with_reducible repeat (first | refine blk_drewN ?_ _ | refine blk_drew ?_ | refine blk_alloc ?_ _)); exact BK232.out)) : gb234 ≠ gb232)); have n8_ := Aside0.mk ((by rw [hg]; exact Nat.ne_of_lt (blk_lt (g := gb233) (o := .cells #[.bool a2_0, .int .i64 a2_1, .int .i64 a2_2] 27 (0, 0)) (by (with_reducible repeat (first | refine blk_drewN ?_ _ | refine blk_drew ?_ | refine blk_alloc ?_ _)); exact BK233.out)) : gb233 ≠ gb234)); have n9_ := Aside0.mk ((by rw [hg]; exact Nat.ne_of_gt (blk_lt (g := gb233) (o := .cells #[.bool a2_0, .int .i64 a2_1, .int .i64 a2_2] 27 (0, 0)) (by (with_reducible repeat (first | refine blk_drewN ?_ _ | refine blk_drew ?_ | refine blk_alloc ?_ _)); exact BK233.out)) : gb234 ≠ gb233)); clear BK232; clear BK233; clear HB; have BK232 := n0_; have BK233 := n1_; have HB := n2_; have BK234 := n3_; have GW234 := n4_; have GE234 := n5_; have NB232_234 := n6_; have NB234_232 := n7_; have NB233_234 := n8_; have NB234_233 := n9_; clear n0_ n1_ n2_ n3_ n4_ n5_ n6_ n7_ n8_ n9_; clear hb hbox hg))
    have n0_ := Aside0.mk (blk_drew BK232.out)
    have n1_ := Aside0.mk (blk_drew BK233.out)
    have n2_ := Aside0.mk (blk_drew BK234.out)
    have n3_ := Aside0.mk (below_drew1 HB.out)
    clear BK232
    clear BK233
    clear BK234
    clear HB
    have BK232 := n0_
    have BK233 := n1_
    have BK234 := n2_
    have HB := n3_
    clear n0_ n1_ n2_ n3_
    refine start_ (n := 10) (S := fun w' => w'.cell? ⟨gb232, 0, none⟩ = some (.bool a1_0) ∧ w'.cell? ⟨gb232, 1, none⟩ = some (.int .i64 a1_1) ∧ w'.cell? ⟨gb232, 2, none⟩ = some (.int .i64 a1_2) ∧ w'.cell? ⟨gb233, 0, none⟩ = some (.bool a2_0) ∧ w'.cell? ⟨gb233, 1, none⟩ = some (.int .i64 a2_1) ∧ w'.cell? ⟨gb233, 2, none⟩ = some (.int .i64 a2_2) ∧ w'.cell? ⟨gb234, 0, none⟩ = some (.bool a3_0) ∧ w'.cell? ⟨gb234, 1, none⟩ = some (.int .i64 a3_1) ∧ w'.cell? ⟨gb234, 2, none⟩ = some (.int .i64 a3_2)) (ds := []) #[false, false, false, false, false, false, false, false, false, false] (by kernel_rfl) rfl rfl ⟨(blk_cell BK232.out 0).trans rfl, (blk_cell BK232.out 1).trans rfl, (blk_cell BK232.out 2).trans rfl, (blk_cell BK233.out 0).trans rfl, (blk_cell BK233.out 1).trans rfl, (blk_cell BK233.out 2).trans rfl, (blk_cell BK234.out 0).trans rfl, (blk_cell BK234.out 1).trans rfl, (blk_cell BK234.out 2).trans rfl⟩ (fun hHeld => ?_); refine with_tabW laws_FnExactBackMin.tab1 laws_FnExactBackMin.bits1 (fun HT_ HW_ => ?_)
    generalize w17.drew = w18 at BK232 BK233 BK234 HB hHeld ⊢
    refine pure_ (i := 0) (N := some 11) (v := ?_) (a' := ?_) #[true, false, false, false, false, false, false, false, false, false] rfl rfl (any_of HT_.out (by kernel_rfl)) (fun _ _ _ h => h) (Or.inl ⟨by rfl, ?_⟩) ?_ ?_
    rotate_left
    · intro w'
      go_simp
      with_reducible rfl
    rotate_left
    · simp only [Act.put, List.setIfInBounds_toArray, List.set_cons_zero, List.set_cons_succ, i64_w, i32_w]
      rfl
    refine take_ (i := 1) (N := some 12) (v := ?_) (a' := ?_) #[true, true, false, false, false, false, false, false, false, false] rfl rfl (take_ofW HT_.out HW_.out (by kernel_rfl)) (fun _ _ _ h => h) (Or.inl ⟨by rfl, ?_⟩) hHeld ?_ ?_
    rotate_left
    · rintro w' ⟨s0, s1, s2, s3, s4, s5, s6, s7, s8⟩
      go_simp
      with_reducible rfl
    rotate_left
    · simp only [Act.put, List.setIfInBounds_toArray, List.set_cons_zero, List.set_cons_succ, i64_w, i32_w]
      rfl
    refine take_ (i := 3) (N := some 14) (v := ?_) (a' := ?_) #[true, true, false, true, false, false, false, false, false, false] rfl rfl (take_ofW HT_.out HW_.out (by kernel_rfl)) (fun _ _ _ h => h) (Or.inl ⟨by rfl, ?_⟩) hHeld ?_ ?_
    rotate_left
    · rintro w' ⟨s0, s1, s2, s3, s4, s5, s6, s7, s8⟩
      go_simp
      with_reducible rfl
    rotate_left
    · simp only [Act.put, List.setIfInBounds_toArray, List.set_cons_zero, List.set_cons_succ, i64_w, i32_w]
      rfl
    refine take_ (i := 5) (N := some 16) (v := ?_) (a' := ?_) #[true, true, false, true, false, true, false, false, false, false] rfl rfl (take_ofW HT_.out HW_.out (by kernel_rfl)) (fun _ _ _ h => h) (Or.inl ⟨by rfl, ?_⟩) hHeld ?_ ?_
    rotate_left
    · rintro w' ⟨s0, s1, s2, s3, s4, s5, s6, s7, s8⟩
      go_simp
      with_reducible rfl
    rotate_left
    · simp only [Act.put, List.setIfInBounds_toArray, List.set_cons_zero, List.set_cons_succ, i64_w, i32_w]
      rfl
    refine join_ (σ := Nat) 1 #[true, true, true, true, true, true, true, true, true, false] (fun s_ => [(13, .agg #[.bool t235, .int .i64 t236, .int .i64 t237]), (15, .agg #[.bool t238, .int .i64 t239, .int .i64 t240]), (17, .agg #[.bool t241, .int .i64 t242, .int .i64 t243]), (18, .agg #[.bool t244, .int .i64 t245, .int .i64 t246]), (9, .pointer (some ⟨s_, 0, none⟩))]) (fun s_ w' => (w'.cell? ⟨gb232, 0, none⟩ = some (.bool a1_0) ∧ w'.cell? ⟨gb232, 1, none⟩ = some (.int .i64 a1_1) ∧ w'.cell? ⟨gb232, 2, none⟩ = some (.int .i64 a1_2) ∧ w'.cell? ⟨gb233, 0, none⟩ = some (.bool a2_0) ∧ w'.cell? ⟨gb233, 1, none⟩ = some (.int .i64 a2_1) ∧ w'.cell? ⟨gb233, 2, none⟩ = some (.int .i64 a2_2) ∧ w'.cell? ⟨gb234, 0, none⟩ = some (.bool a3_0) ∧ w'.cell? ⟨gb234, 1, none⟩ = some (.int .i64 a3_1) ∧ w'.cell? ⟨gb234, 2, none⟩ = some (.int .i64 a3_2)) ∧ (w'.heap[gb232]? = some (.cells #[.bool a1_0, .int .i64 a1_1, .int .i64 a1_2] 27 (0, 0))) ∧ (w'.heap[gb233]? = some (.cells #[.bool a2_0, .int .i64 a2_1, .int .i64 a2_2] 27 (0, 0))) ∧ (w'.heap[gb234]? = some (.cells #[.bool a3_0, .int .i64 a3_1, .int .i64 a3_2] 27 (0, 0))) ∧ (w'.heap[s_]? = some (.cells #[.bool false, .int .i64 0, .int .i64 0] 23 (0, 0))) ∧ (w.heap.size ≤ s_) ∧ (w.heap.size ≤ s_) ∧ (gb232 ≠ s_) ∧ (s_ ≠ gb232) ∧ (gb233 ≠ s_) ∧ (s_ ≠ gb233) ∧ (gb234 ≠ s_) ∧ (s_ ≠ gb234) ∧ (Below w.heap.size w w')) ?_ ?_
    rotate_left
    · intro hJ2_4_6_7_8
      refine join_ (σ := Unit) 2 #[true, true, true, true, true, true, true, true, false, false] (fun s_ => [(13, .agg #[.bool t235, .int .i64 t236, .int .i64 t237]), (15, .agg #[.bool t238, .int .i64 t239, .int .i64 t240]), (17, .agg #[.bool t241, .int .i64 t242, .int .i64 t243]), (18, .agg #[.bool t244, .int .i64 t245, .int .i64 t246])]) (fun s_ w' => (w'.cell? ⟨gb232, 0, none⟩ = some (.bool a1_0) ∧ w'.cell? ⟨gb232, 1, none⟩ = some (.int .i64 a1_1) ∧ w'.cell? ⟨gb232, 2, none⟩ = some (.int .i64 a1_2) ∧ w'.cell? ⟨gb233, 0, none⟩ = some (.bool a2_0) ∧ w'.cell? ⟨gb233, 1, none⟩ = some (.int .i64 a2_1) ∧ w'.cell? ⟨gb233, 2, none⟩ = some (.int .i64 a2_2) ∧ w'.cell? ⟨gb234, 0, none⟩ = some (.bool a3_0) ∧ w'.cell? ⟨gb234, 1, none⟩ = some (.int .i64 a3_1) ∧ w'.cell? ⟨gb234, 2, none⟩ = some (.int .i64 a3_2)) ∧ (w'.heap[gb232]? = some (.cells #[.bool a1_0, .int .i64 a1_1, .int .i64 a1_2] 27 (0, 0))) ∧ (w'.heap[gb233]? = some (.cells #[.bool a2_0, .int .i64 a2_1, .int .i64 a2_2] 27 (0, 0))) ∧ (w'.heap[gb234]? = some (.cells #[.bool a3_0, .int .i64 a3_1, .int .i64 a3_2] 27 (0, 0))) ∧ (Below w.heap.size w w')) ?_ ?_
      rotate_left
      · intro hJ2_4_6_7
        refine join_ (σ := Nat) 2 #[true, true, true, true, true, true, true, false, true, false] (fun s_ => [(13, .agg #[.bool t235, .int .i64 t236, .int .i64 t237]), (15, .agg #[.bool t238, .int .i64 t239, .int .i64 t240]), (17, .agg #[.bool t241, .int .i64 t242, .int .i64 t243]), (9, .pointer (some ⟨s_, 0, none⟩))]) (fun s_ w' => (w'.cell? ⟨gb232, 0, none⟩ = some (.bool a1_0) ∧ w'.cell? ⟨gb232, 1, none⟩ = some (.int .i64 a1_1) ∧ w'.cell? ⟨gb232, 2, none⟩ = some (.int .i64 a1_2) ∧ w'.cell? ⟨gb233, 0, none⟩ = some (.bool a2_0) ∧ w'.cell? ⟨gb233, 1, none⟩ = some (.int .i64 a2_1) ∧ w'.cell? ⟨gb233, 2, none⟩ = some (.int .i64 a2_2) ∧ w'.cell? ⟨gb234, 0, none⟩ = some (.bool a3_0) ∧ w'.cell? ⟨gb234, 1, none⟩ = some (.int .i64 a3_1) ∧ w'.cell? ⟨gb234, 2, none⟩ = some (.int .i64 a3_2)) ∧ (w'.heap[gb232]? = some (.cells #[.bool a1_0, .int .i64 a1_1, .int .i64 a1_2] 27 (0, 0))) ∧ (w'.heap[gb233]? = some (.cells #[.bool a2_0, .int .i64 a2_1, .int .i64 a2_2] 27 (0, 0))) ∧ (w'.heap[gb234]? = some (.cells #[.bool a3_0, .int .i64 a3_1, .int .i64 a3_2] 27 (0, 0))) ∧ (w'.heap[s_]? = some (.cells #[.bool false, .int .i64 0, .int .i64 0] 23 (0, 0))) ∧ (w.heap.size ≤ s_) ∧ (w.heap.size ≤ s_) ∧ (gb232 ≠ s_) ∧ (s_ ≠ gb232) ∧ (gb233 ≠ s_) ∧ (s_ ≠ gb233) ∧ (gb234 ≠ s_) ∧ (s_ ≠ gb234) ∧ (Below w.heap.size w w')) ?_ ?_
        rotate_left
        · intro hJ2_4_6_8
          refine join_ (σ := Unit) 3 #[true, true, true, true, true, true, true, false, false, false] (fun s_ => [(13, .agg #[.bool t235, .int .i64 t236, .int .i64 t237]), (15, .agg #[.bool t238, .int .i64 t239, .int .i64 t240]), (17, .agg #[.bool t241, .int .i64 t242, .int .i64 t243])]) (fun s_ w' => (w'.cell? ⟨gb232, 0, none⟩ = some (.bool a1_0) ∧ w'.cell? ⟨gb232, 1, none⟩ = some (.int .i64 a1_1) ∧ w'.cell? ⟨gb232, 2, none⟩ = some (.int .i64 a1_2) ∧ w'.cell? ⟨gb233, 0, none⟩ = some (.bool a2_0) ∧ w'.cell? ⟨gb233, 1, none⟩ = some (.int .i64 a2_1) ∧ w'.cell? ⟨gb233, 2, none⟩ = some (.int .i64 a2_2) ∧ w'.cell? ⟨gb234, 0, none⟩ = some (.bool a3_0) ∧ w'.cell? ⟨gb234, 1, none⟩ = some (.int .i64 a3_1) ∧ w'.cell? ⟨gb234, 2, none⟩ = some (.int .i64 a3_2)) ∧ (w'.heap[gb232]? = some (.cells #[.bool a1_0, .int .i64 a1_1, .int .i64 a1_2] 27 (0, 0))) ∧ (w'.heap[gb233]? = some (.cells #[.bool a2_0, .int .i64 a2_1, .int .i64 a2_2] 27 (0, 0))) ∧ (w'.heap[gb234]? = some (.cells #[.bool a3_0, .int .i64 a3_1, .int .i64 a3_2] 27 (0, 0))) ∧ (Below w.heap.size w w')) ?_ ?_
          rotate_left
          · intro hJ2_4_6
            refine join_ (σ := Nat) 3 #[true, true, true, true, true, true, false, false, true, false] (fun s_ => [(13, .agg #[.bool t235, .int .i64 t236, .int .i64 t237]), (15, .agg #[.bool t238, .int .i64 t239, .int .i64 t240]), (9, .pointer (some ⟨s_, 0, none⟩))]) (fun s_ w' => (w'.cell? ⟨gb232, 0, none⟩ = some (.bool a1_0) ∧ w'.cell? ⟨gb232, 1, none⟩ = some (.int .i64 a1_1) ∧ w'.cell? ⟨gb232, 2, none⟩ = some (.int .i64 a1_2) ∧ w'.cell? ⟨gb233, 0, none⟩ = some (.bool a2_0) ∧ w'.cell? ⟨gb233, 1, none⟩ = some (.int .i64 a2_1) ∧ w'.cell? ⟨gb233, 2, none⟩ = some (.int .i64 a2_2) ∧ w'.cell? ⟨gb234, 0, none⟩ = some (.bool a3_0) ∧ w'.cell? ⟨gb234, 1, none⟩ = some (.int .i64 a3_1) ∧ w'.cell? ⟨gb234, 2, none⟩ = some (.int .i64 a3_2)) ∧ (w'.heap[gb232]? = some (.cells #[.bool a1_0, .int .i64 a1_1, .int .i64 a1_2] 27 (0, 0))) ∧ (w'.heap[gb233]? = some (.cells #[.bool a2_0, .int .i64 a2_1, .int .i64 a2_2] 27 (0, 0))) ∧ (w'.heap[gb234]? = some (.cells #[.bool a3_0, .int .i64 a3_1, .int .i64 a3_2] 27 (0, 0))) ∧ (w'.heap[s_]? = some (.cells #[.bool false, .int .i64 0, .int .i64 0] 23 (0, 0))) ∧ (w.heap.size ≤ s_) ∧ (w.heap.size ≤ s_) ∧ (gb232 ≠ s_) ∧ (s_ ≠ gb232) ∧ (gb233 ≠ s_) ∧ (s_ ≠ gb233) ∧ (gb234 ≠ s_) ∧ (s_ ≠ gb234) ∧ (Below w.heap.size w w')) ?_ ?_
            rotate_left
            · intro hJ2_4_8
              refine join_ (σ := Unit) 4 #[true, true, true, true, true, true, false, false, false, false] (fun s_ => [(13, .agg #[.bool t235, .int .i64 t236, .int .i64 t237]), (15, .agg #[.bool t238, .int .i64 t239, .int .i64 t240])]) (fun s_ w' => (w'.cell? ⟨gb232, 0, none⟩ = some (.bool a1_0) ∧ w'.cell? ⟨gb232, 1, none⟩ = some (.int .i64 a1_1) ∧ w'.cell? ⟨gb232, 2, none⟩ = some (.int .i64 a1_2) ∧ w'.cell? ⟨gb233, 0, none⟩ = some (.bool a2_0) ∧ w'.cell? ⟨gb233, 1, none⟩ = some (.int .i64 a2_1) ∧ w'.cell? ⟨gb233, 2, none⟩ = some (.int .i64 a2_2) ∧ w'.cell? ⟨gb234, 0, none⟩ = some (.bool a3_0) ∧ w'.cell? ⟨gb234, 1, none⟩ = some (.int .i64 a3_1) ∧ w'.cell? ⟨gb234, 2, none⟩ = some (.int .i64 a3_2)) ∧ (w'.heap[gb232]? = some (.cells #[.bool a1_0, .int .i64 a1_1, .int .i64 a1_2] 27 (0, 0))) ∧ (w'.heap[gb233]? = some (.cells #[.bool a2_0, .int .i64 a2_1, .int .i64 a2_2] 27 (0, 0))) ∧ (w'.heap[gb234]? = some (.cells #[.bool a3_0, .int .i64 a3_1, .int .i64 a3_2] 27 (0, 0))) ∧ (Below w.heap.size w w')) ?_ ?_
              rotate_left
              · intro hJ2_4
                refine join_ (σ := Nat) 4 #[true, true, true, true, false, true, false, false, true, false] (fun s_ => [(13, .agg #[.bool t235, .int .i64 t236, .int .i64 t237]), (9, .pointer (some ⟨s_, 0, none⟩))]) (fun s_ w' => (w'.cell? ⟨gb232, 0, none⟩ = some (.bool a1_0) ∧ w'.cell? ⟨gb232, 1, none⟩ = some (.int .i64 a1_1) ∧ w'.cell? ⟨gb232, 2, none⟩ = some (.int .i64 a1_2) ∧ w'.cell? ⟨gb233, 0, none⟩ = some (.bool a2_0) ∧ w'.cell? ⟨gb233, 1, none⟩ = some (.int .i64 a2_1) ∧ w'.cell? ⟨gb233, 2, none⟩ = some (.int .i64 a2_2) ∧ w'.cell? ⟨gb234, 0, none⟩ = some (.bool a3_0) ∧ w'.cell? ⟨gb234, 1, none⟩ = some (.int .i64 a3_1) ∧ w'.cell? ⟨gb234, 2, none⟩ = some (.int .i64 a3_2)) ∧ (w'.heap[gb232]? = some (.cells #[.bool a1_0, .int .i64 a1_1, .int .i64 a1_2] 27 (0, 0))) ∧ (w'.heap[gb233]? = some (.cells #[.bool a2_0, .int .i64 a2_1, .int .i64 a2_2] 27 (0, 0))) ∧ (w'.heap[gb234]? = some (.cells #[.bool a3_0, .int .i64 a3_1, .int .i64 a3_2] 27 (0, 0))) ∧ (w'.heap[s_]? = some (.cells #[.bool false, .int .i64 0, .int .i64 0] 23 (0, 0))) ∧ (w.heap.size ≤ s_) ∧ (w.heap.size ≤ s_) ∧ (gb232 ≠ s_) ∧ (s_ ≠ gb232) ∧ (gb233 ≠ s_) ∧ (s_ ≠ gb233) ∧ (gb234 ≠ s_) ∧ (s_ ≠ gb234) ∧ (Below w.heap.size w w')) ?_ ?_
                rotate_left
                · intro hJ2_8
                  refine join_ (σ := Unit) 5 #[true, true, true, true, false, true, false, false, false, false] (fun s_ => [(13, .agg #[.bool t235, .int .i64 t236, .int .i64 t237])]) (fun s_ w' => (w'.cell? ⟨gb232, 0, none⟩ = some (.bool a1_0) ∧ w'.cell? ⟨gb232, 1, none⟩ = some (.int .i64 a1_1) ∧ w'.cell? ⟨gb232, 2, none⟩ = some (.int .i64 a1_2) ∧ w'.cell? ⟨gb233, 0, none⟩ = some (.bool a2_0) ∧ w'.cell? ⟨gb233, 1, none⟩ = some (.int .i64 a2_1) ∧ w'.cell? ⟨gb233, 2, none⟩ = some (.int .i64 a2_2) ∧ w'.cell? ⟨gb234, 0, none⟩ = some (.bool a3_0) ∧ w'.cell? ⟨gb234, 1, none⟩ = some (.int .i64 a3_1) ∧ w'.cell? ⟨gb234, 2, none⟩ = some (.int .i64 a3_2)) ∧ (w'.heap[gb232]? = some (.cells #[.bool a1_0, .int .i64 a1_1, .int .i64 a1_2] 27 (0, 0))) ∧ (w'.heap[gb233]? = some (.cells #[.bool a2_0, .int .i64 a2_1, .int .i64 a2_2] 27 (0, 0))) ∧ (w'.heap[gb234]? = some (.cells #[.bool a3_0, .int .i64 a3_1, .int .i64 a3_2] 27 (0, 0))) ∧ (Below w.heap.size w w')) ?_ ?_
                  rotate_left
                  · intro hJ2
                    refine join_ (σ := Nat) 5 #[true, true, false, true, false, true, false, false, true, false] (fun s_ => [(9, .pointer (some ⟨s_, 0, none⟩))]) (fun s_ w' => (w'.cell? ⟨gb232, 0, none⟩ = some (.bool a1_0) ∧ w'.cell? ⟨gb232, 1, none⟩ = some (.int .i64 a1_1) ∧ w'.cell? ⟨gb232, 2, none⟩ = some (.int .i64 a1_2) ∧ w'.cell? ⟨gb233, 0, none⟩ = some (.bool a2_0) ∧ w'.cell? ⟨gb233, 1, none⟩ = some (.int .i64 a2_1) ∧ w'.cell? ⟨gb233, 2, none⟩ = some (.int .i64 a2_2) ∧ w'.cell? ⟨gb234, 0, none⟩ = some (.bool a3_0) ∧ w'.cell? ⟨gb234, 1, none⟩ = some (.int .i64 a3_1) ∧ w'.cell? ⟨gb234, 2, none⟩ = some (.int .i64 a3_2)) ∧ (w'.heap[gb232]? = some (.cells #[.bool a1_0, .int .i64 a1_1, .int .i64 a1_2] 27 (0, 0))) ∧ (w'.heap[gb233]? = some (.cells #[.bool a2_0, .int .i64 a2_1, .int .i64 a2_2] 27 (0, 0))) ∧ (w'.heap[gb234]? = some (.cells #[.bool a3_0, .int .i64 a3_1, .int .i64 a3_2] 27 (0, 0))) ∧ (w'.heap[s_]? = some (.cells #[.bool false, .int .i64 0, .int .i64 0] 23 (0, 0))) ∧ (w.heap.size ≤ s_) ∧ (w.heap.size ≤ s_) ∧ (gb232 ≠ s_) ∧ (s_ ≠ gb232) ∧ (gb233 ≠ s_) ∧ (s_ ≠ gb233) ∧ (gb234 ≠ s_) ∧ (s_ ≠ gb234) ∧ (Below w.heap.size w w')) ?_ ?_
                    rotate_left
                    · intro hJ8
                      refine two_ (i := 2) (j := 8) (Ni := some 13) (Nj := some 9) #[true, true, true, true, false, true, false, false, false, false] #[true, true, false, true, false, true, false, false, true, false] rfl rfl rfl rfl (two_of HT_.out (by kernel_rfl)) (by decide) (by decide) (fun K hK => ?_) (fun K hK => ?_)
                      · skip
                        refine goes_ Try.func19 (by kernel_rfl) rfl #[.agg #[.bool a1_0, .int .i64 a1_1, .int .i64 a1_2]] (by rfl) rfl rfl (by (try simp only [List.map_toArray, List.map_cons, List.map_nil]); first | done | rfl | (simp only [List.length_drop, List.length_take]; rfl)) ?_
                        with_reducible refine (laws_toSpan.calls a1_0 a1_1 a1_2 t235 t236 t237 _ A5.out).mono ?_
                        rintro e w19 ⟨rfl, hb⟩
                        refine ⟨_, rfl, ?_⟩
                        have n0_ := Aside0.mk (blk_below (g := gb232) (o := .cells #[.bool a1_0, .int .i64 a1_1, .int .i64 a1_2] 27 (0, 0)) (by (with_reducible repeat (first | refine blk_drewN ?_ _ | refine blk_drew ?_ | refine blk_alloc ?_ _)); exact BK232.out) hb)
                        have n1_ := Aside0.mk (blk_below (g := gb233) (o := .cells #[.bool a2_0, .int .i64 a2_1, .int .i64 a2_2] 27 (0, 0)) (by (with_reducible repeat (first | refine blk_drewN ?_ _ | refine blk_drew ?_ | refine blk_alloc ?_ _)); exact BK233.out) hb)
                        have n2_ := Aside0.mk (blk_below (g := gb234) (o := .cells #[.bool a3_0, .int .i64 a3_1, .int .i64 a3_2] 27 (0, 0)) (by (with_reducible repeat (first | refine blk_drewN ?_ _ | refine blk_drew ?_ | refine blk_alloc ?_ _)); exact BK234.out) hb)
                        have n3_ := Aside0.mk (below_step (by repeat (first | (with_reducible first | exact HB.out | apply below_alloc | apply pw_below_drewN | apply below_drew1 | refine below_set ?_ GE232.out | refine below_set ?_ GE233.out | refine below_set ?_ GE234.out) | exact HB.out)) hb)
                        clear BK232
                        clear BK233
                        clear BK234
                        clear HB
                        have BK232 := n0_
                        have BK233 := n1_
                        have BK234 := n2_
                        have HB := n3_
                        clear n0_ n1_ n2_ n3_
                        (try clear hb)
                        (try clear hb2)
                        (try clear hk)
                        (try clear hi)
                        refine hK.out _ _ ⟨(blk_cell BK232.out 0).trans rfl, (blk_cell BK232.out 1).trans rfl, (blk_cell BK232.out 2).trans rfl, (blk_cell BK233.out 0).trans rfl, (blk_cell BK233.out 1).trans rfl, (blk_cell BK233.out 2).trans rfl, (blk_cell BK234.out 0).trans rfl, (blk_cell BK234.out 1).trans rfl, (blk_cell BK234.out 2).trans rfl⟩ (fun hHeld => ?_)
                        clear hK K
                        refine norm_ (a' := ?_) ?_ ?_
                        rotate_left
                        · show Act.put _ (some 13) _ = _
                          simp only [Act.put, List.setIfInBounds_toArray, List.set_cons_zero, List.set_cons_succ, i64_w, i32_w]
                          rfl
                        exact norm_ (by first | (simp only [putAll, Act.put, List.setIfInBounds_toArray, List.set_cons_zero, List.set_cons_succ]; done) | (simp only [putAll, Act.put, List.setIfInBounds_toArray, List.set_cons_zero, List.set_cons_succ]; rfl)) (hJ2 () _ ⟨hHeld, (by (with_reducible repeat (first | refine blk_drewN ?_ _ | refine blk_drew ?_ | refine blk_alloc ?_ _)); exact BK232.out), (by (with_reducible repeat (first | refine blk_drewN ?_ _ | refine blk_drew ?_ | refine blk_alloc ?_ _)); exact BK233.out), (by (with_reducible repeat (first | refine blk_drewN ?_ _ | refine blk_drew ?_ | refine blk_alloc ?_ _)); exact BK234.out), (by repeat (first | (with_reducible first | exact HB.out | apply below_alloc | apply pw_below_drewN | apply below_drew1 | refine below_set ?_ GE232.out | refine below_set ?_ GE233.out | refine below_set ?_ GE234.out) | exact HB.out))⟩)
                      · skip
                        refine box_step ?hg (N := 9) ?hd (cs := #[.bool false, .int .i64 0, .int .i64 0]) (t := 23) ?hr ?_; (case hd => rfl); (case hg => rfl); (case hr => first | (go_simp; done) | (go_simp; rfl))
                        intro gb247 hg w19 hbox hb
                        have n0_ := Aside0.mk (blk_below (g := gb232) (o := .cells #[.bool a1_0, .int .i64 a1_1, .int .i64 a1_2] 27 (0, 0)) (by (with_reducible repeat (first | refine blk_drewN ?_ _ | refine blk_drew ?_ | refine blk_alloc ?_ _)); exact BK232.out) hb)
                        have n1_ := Aside0.mk (blk_below (g := gb233) (o := .cells #[.bool a2_0, .int .i64 a2_1, .int .i64 a2_2] 27 (0, 0)) (by (with_reducible repeat (first | refine blk_drewN ?_ _ | refine blk_drew ?_ | refine blk_alloc ?_ _)); exact BK233.out) hb)
                        have n2_ := Aside0.mk (blk_below (g := gb234) (o := .cells #[.bool a3_0, .int .i64 a3_1, .int .i64 a3_2] 27 (0, 0)) (by (with_reducible repeat (first | refine blk_drewN ?_ _ | refine blk_drew ?_ | refine blk_alloc ?_ _)); exact BK234.out) hb)
                        have n3_ := Aside0.mk (below_step (by repeat (first | (with_reducible first | exact HB.out | apply below_alloc | apply pw_below_drewN | apply below_drew1 | refine below_set ?_ GE232.out | refine below_set ?_ GE233.out | refine below_set ?_ GE234.out) | exact HB.out)) hb)
                        have n4_ := Aside0.mk (hbox)
                        have n5_ := Aside0.mk ((by rw [hg]; exact (below_size (by repeat (first | (with_reducible first | exact HB.out | apply below_alloc | apply pw_below_drewN | apply below_drew1 | refine below_set ?_ GE232.out | refine below_set ?_ GE233.out | refine below_set ?_ GE234.out) | exact HB.out))) : w.heap.size ≤ gb247))
                        have n6_ := Aside0.mk ((by rw [hg]; exact (below_size (by repeat (first | (with_reducible first | exact HB.out | apply below_alloc | apply pw_below_drewN | apply below_drew1 | refine below_set ?_ GE232.out | refine below_set ?_ GE233.out | refine below_set ?_ GE234.out) | exact HB.out))) : w.heap.size ≤ gb247))
                        have n7_ := Aside0.mk ((by rw [hg]; exact Nat.ne_of_lt (blk_lt (g := gb232) (o := .cells #[.bool a1_0, .int .i64 a1_1, .int .i64 a1_2] 27 (0, 0)) (by (with_reducible repeat (first | refine blk_drewN ?_ _ | refine blk_drew ?_ | refine blk_alloc ?_ _)); exact BK232.out)) : gb232 ≠ gb247))
                        have n8_ := Aside0.mk ((by rw [hg]; exact Nat.ne_of_gt (blk_lt (g := gb232) (o := .cells #[.bool a1_0, .int .i64 a1_1, .int .i64 a1_2] 27 (0, 0)) (by (with_reducible repeat (first | refine blk_drewN ?_ _ | refine blk_drew ?_ | refine blk_alloc ?_ _)); exact BK232.out)) : gb247 ≠ gb232))
                        have n9_ := Aside0.mk ((by rw [hg]; exact Nat.ne_of_lt (blk_lt (g := gb233) (o := .cells #[.bool a2_0, .int .i64 a2_1, .int .i64 a2_2] 27 (0, 0)) (by (with_reducible repeat (first | refine blk_drewN ?_ _ | refine blk_drew ?_ | refine blk_alloc ?_ _)); exact BK233.out)) : gb233 ≠ gb247))
                        have n10_ := Aside0.mk ((by rw [hg]; exact Nat.ne_of_gt (blk_lt (g := gb233) (o := .cells #[.bool a2_0, .int .i64 a2_1, .int .i64 a2_2] 27 (0, 0)) (by (with_reducible repeat (first | refine blk_drewN ?_ _ | refine blk_drew ?_ | refine blk_alloc ?_ _)); exact BK233.out)) : gb247 ≠ gb233))
                        have n11_ := Aside0.mk ((by rw [hg]; exact Nat.ne_of_lt (blk_lt (g := gb234) (o := .cells #[.bool a3_0, .int .i64 a3_1, .int .i64 a3_2] 27 (0, 0)) (by (with_reducible repeat (first | refine blk_drewN ?_ _ | refine blk_drew ?_ | refine blk_alloc ?_ _)); exact BK234.out)) : gb234 ≠ gb247))
                        have n12_ := Aside0.mk ((by rw [hg]; exact Nat.ne_of_gt (blk_lt (g := gb234) (o := .cells #[.bool a3_0, .int .i64 a3_1, .int .i64 a3_2] 27 (0, 0)) (by (with_reducible repeat (first | refine blk_drewN ?_ _ | refine blk_drew ?_ | refine blk_alloc ?_ _)); exact BK234.out)) : gb247 ≠ gb234))
                        clear BK232
                        clear BK233
                        clear BK234
                        clear HB
                        have BK232 := n0_
                        have BK233 := n1_
                        have BK234 := n2_
                        have HB := n3_
                        have BK247 := n4_
                        have GW247 := n5_
                        have GE247 := n6_
                        have NB232_247 := n7_
                        have NB247_232 := n8_
                        have NB233_247 := n9_
                        have NB247_233 := n10_
                        have NB234_247 := n11_
                        have NB247_234 := n12_
                        clear n0_ n1_ n2_ n3_ n4_ n5_ n6_ n7_ n8_ n9_ n10_ n11_ n12_
                        clear hb hbox hg
                        refine hK.out _ _ ⟨(blk_cell BK232.out 0).trans rfl, (blk_cell BK232.out 1).trans rfl, (blk_cell BK232.out 2).trans rfl, (blk_cell BK233.out 0).trans rfl, (blk_cell BK233.out 1).trans rfl, (blk_cell BK233.out 2).trans rfl, (blk_cell BK234.out 0).trans rfl, (blk_cell BK234.out 1).trans rfl, (blk_cell BK234.out 2).trans rfl⟩ (fun hHeld => ?_)
                        clear hK K
                        refine norm_ (a' := ?_) ?_ ?_
                        rotate_left
                        · show Act.put _ (some 9) _ = _
                          simp only [Act.put, List.setIfInBounds_toArray, List.set_cons_zero, List.set_cons_succ, i64_w, i32_w]
                          rfl
                        exact norm_ (by first | (simp only [putAll, Act.put, List.setIfInBounds_toArray, List.set_cons_zero, List.set_cons_succ]; done) | (simp only [putAll, Act.put, List.setIfInBounds_toArray, List.set_cons_zero, List.set_cons_succ]; rfl)) (hJ8 (gb247) _ ⟨hHeld, (by (with_reducible repeat (first | refine blk_drewN ?_ _ | refine blk_drew ?_ | refine blk_alloc ?_ _)); exact BK232.out), (by (with_reducible repeat (first | refine blk_drewN ?_ _ | refine blk_drew ?_ | refine blk_alloc ?_ _)); exact BK233.out), (by (with_reducible repeat (first | refine blk_drewN ?_ _ | refine blk_drew ?_ | refine blk_alloc ?_ _)); exact BK234.out), (by (with_reducible repeat (first | refine blk_drewN ?_ _ | refine blk_drew ?_ | refine blk_alloc ?_ _)); exact BK247.out), GW247.out, GE247.out, NB232_247.out, NB247_232.out, NB233_247.out, NB247_233.out, NB234_247.out, NB247_234.out, (by repeat (first | (with_reducible first | exact HB.out | apply below_alloc | apply pw_below_drewN | apply below_drew1 | refine below_set ?_ GE232.out | refine below_set ?_ GE233.out | refine below_set ?_ GE234.out | refine below_set ?_ GE247.out) | exact HB.out))⟩)
                    · skip
                      rintro gb247 w20 ⟨hS_, h0_, h1_, h2_, h3_, h4_, h5_, h6_, h7_, h8_, h9_, h10_, h11_, h12_⟩
                      have n0_ : Aside0 (w20.heap[gb232]? = some (.cells #[.bool a1_0, .int .i64 a1_1, .int .i64 a1_2] 27 (0, 0))) := ⟨h0_⟩
                      have n1_ : Aside0 (w20.heap[gb233]? = some (.cells #[.bool a2_0, .int .i64 a2_1, .int .i64 a2_2] 27 (0, 0))) := ⟨h1_⟩
                      have n2_ : Aside0 (w20.heap[gb234]? = some (.cells #[.bool a3_0, .int .i64 a3_1, .int .i64 a3_2] 27 (0, 0))) := ⟨h2_⟩
                      have n3_ : Aside0 (w20.heap[gb247]? = some (.cells #[.bool false, .int .i64 0, .int .i64 0] 23 (0, 0))) := ⟨h3_⟩
                      have n4_ : Aside0 (w.heap.size ≤ gb247) := ⟨h4_⟩
                      have n5_ : Aside0 (w.heap.size ≤ gb247) := ⟨h5_⟩
                      have n6_ : Aside0 (gb232 ≠ gb247) := ⟨h6_⟩
                      have n7_ : Aside0 (gb247 ≠ gb232) := ⟨h7_⟩
                      have n8_ : Aside0 (gb233 ≠ gb247) := ⟨h8_⟩
                      have n9_ : Aside0 (gb247 ≠ gb233) := ⟨h9_⟩
                      have n10_ : Aside0 (gb234 ≠ gb247) := ⟨h10_⟩
                      have n11_ : Aside0 (gb247 ≠ gb234) := ⟨h11_⟩
                      have n12_ : Aside0 (Below w.heap.size w w20) := ⟨h12_⟩
                      clear BK232
                      clear BK233
                      clear BK234
                      clear HB
                      clear h0_ h1_ h2_ h3_ h4_ h5_ h6_ h7_ h8_ h9_ h10_ h11_ h12_
                      have BK232 := n0_
                      have BK233 := n1_
                      have BK234 := n2_
                      have BK247 := n3_
                      have GW247 := n4_
                      have GE247 := n5_
                      have NB232_247 := n6_
                      have NB247_232 := n7_
                      have NB233_247 := n8_
                      have NB247_233 := n9_
                      have NB234_247 := n10_
                      have NB247_234 := n11_
                      have HB := n12_
                      clear n0_ n1_ n2_ n3_ n4_ n5_ n6_ n7_ n8_ n9_ n10_ n11_ n12_
                      have hHeld : w20.cell? ⟨gb232, 0, none⟩ = some (.bool a1_0) ∧ w20.cell? ⟨gb232, 1, none⟩ = some (.int .i64 a1_1) ∧ w20.cell? ⟨gb232, 2, none⟩ = some (.int .i64 a1_2) ∧ w20.cell? ⟨gb233, 0, none⟩ = some (.bool a2_0) ∧ w20.cell? ⟨gb233, 1, none⟩ = some (.int .i64 a2_1) ∧ w20.cell? ⟨gb233, 2, none⟩ = some (.int .i64 a2_2) ∧ w20.cell? ⟨gb234, 0, none⟩ = some (.bool a3_0) ∧ w20.cell? ⟨gb234, 1, none⟩ = some (.int .i64 a3_1) ∧ w20.cell? ⟨gb234, 2, none⟩ = some (.int .i64 a3_2) := hS_
                      refine norm_ (a' := ?_) ?_ ?_
                      rotate_left
                      · simp only [putAll, Act.put, List.setIfInBounds_toArray, List.set_cons_zero, List.set_cons_succ]
                        rfl
                      refine one_ (i := 2) (N := some 13) #[true, true, true, true, false, true, false, false, true, false] rfl rfl (one_of HT_.out (by kernel_rfl)) (by decide) (fun K hK => ?_)
                      refine goes_ Try.func19 (by kernel_rfl) rfl #[.agg #[.bool a1_0, .int .i64 a1_1, .int .i64 a1_2]] (by rfl) rfl rfl (by (try simp only [List.map_toArray, List.map_cons, List.map_nil]); first | done | rfl | (simp only [List.length_drop, List.length_take]; rfl)) ?_
                      with_reducible refine (laws_toSpan.calls a1_0 a1_1 a1_2 t235 t236 t237 _ A5.out).mono ?_
                      rintro e w21 ⟨rfl, hb⟩
                      refine ⟨_, rfl, ?_⟩
                      have n0_ := Aside0.mk (blk_below (g := gb232) (o := .cells #[.bool a1_0, .int .i64 a1_1, .int .i64 a1_2] 27 (0, 0)) (by (with_reducible repeat (first | refine blk_drewN ?_ _ | refine blk_drew ?_ | refine blk_alloc ?_ _)); exact BK232.out) hb)
                      have n1_ := Aside0.mk (blk_below (g := gb233) (o := .cells #[.bool a2_0, .int .i64 a2_1, .int .i64 a2_2] 27 (0, 0)) (by (with_reducible repeat (first | refine blk_drewN ?_ _ | refine blk_drew ?_ | refine blk_alloc ?_ _)); exact BK233.out) hb)
                      have n2_ := Aside0.mk (blk_below (g := gb234) (o := .cells #[.bool a3_0, .int .i64 a3_1, .int .i64 a3_2] 27 (0, 0)) (by (with_reducible repeat (first | refine blk_drewN ?_ _ | refine blk_drew ?_ | refine blk_alloc ?_ _)); exact BK234.out) hb)
                      have n3_ := Aside0.mk (blk_below (g := gb247) (o := .cells #[.bool false, .int .i64 0, .int .i64 0] 23 (0, 0)) (by (with_reducible repeat (first | refine blk_drewN ?_ _ | refine blk_drew ?_ | refine blk_alloc ?_ _)); exact BK247.out) hb)
                      have n4_ := Aside0.mk (below_step (by repeat (first | (with_reducible first | exact HB.out | apply below_alloc | apply pw_below_drewN | apply below_drew1 | refine below_set ?_ GE232.out | refine below_set ?_ GE233.out | refine below_set ?_ GE234.out | refine below_set ?_ GE247.out) | exact HB.out)) hb)
                      clear BK232
                      clear BK233
                      clear BK234
                      clear BK247
                      clear HB
                      have BK232 := n0_
                      have BK233 := n1_
                      have BK234 := n2_
                      have BK247 := n3_
                      have HB := n4_
                      clear n0_ n1_ n2_ n3_ n4_
                      (try clear hb)
                      (try clear hb2)
                      (try clear hk)
                      (try clear hi)
                      refine hK.out _ _ ⟨(blk_cell BK232.out 0).trans rfl, (blk_cell BK232.out 1).trans rfl, (blk_cell BK232.out 2).trans rfl, (blk_cell BK233.out 0).trans rfl, (blk_cell BK233.out 1).trans rfl, (blk_cell BK233.out 2).trans rfl, (blk_cell BK234.out 0).trans rfl, (blk_cell BK234.out 1).trans rfl, (blk_cell BK234.out 2).trans rfl⟩ (fun hHeld => ?_)
                      clear hK K
                      refine norm_ (a' := ?_) ?_ ?_
                      rotate_left
                      · show Act.put _ (some 13) _ = _
                        simp only [Act.put, List.setIfInBounds_toArray, List.set_cons_zero, List.set_cons_succ, i64_w, i32_w]
                        rfl
                      exact norm_ (by first | (simp only [putAll, Act.put, List.setIfInBounds_toArray, List.set_cons_zero, List.set_cons_succ]; done) | (simp only [putAll, Act.put, List.setIfInBounds_toArray, List.set_cons_zero, List.set_cons_succ]; rfl)) (hJ2_8 (gb247) _ ⟨hHeld, (by (with_reducible repeat (first | refine blk_drewN ?_ _ | refine blk_drew ?_ | refine blk_alloc ?_ _)); exact BK232.out), (by (with_reducible repeat (first | refine blk_drewN ?_ _ | refine blk_drew ?_ | refine blk_alloc ?_ _)); exact BK233.out), (by (with_reducible repeat (first | refine blk_drewN ?_ _ | refine blk_drew ?_ | refine blk_alloc ?_ _)); exact BK234.out), (by (with_reducible repeat (first | refine blk_drewN ?_ _ | refine blk_drew ?_ | refine blk_alloc ?_ _)); exact BK247.out), GW247.out, GE247.out, NB232_247.out, NB247_232.out, NB233_247.out, NB247_233.out, NB234_247.out, NB247_234.out, (by repeat (first | (with_reducible first | exact HB.out | apply below_alloc | apply pw_below_drewN | apply below_drew1 | refine below_set ?_ GE232.out | refine below_set ?_ GE233.out | refine below_set ?_ GE234.out | refine below_set ?_ GE247.out) | exact HB.out))⟩)
                  · skip
                    rintro _ w20 ⟨hS_, h0_, h1_, h2_, h3_⟩
                    have n0_ : Aside0 (w20.heap[gb232]? = some (.cells #[.bool a1_0, .int .i64 a1_1, .int .i64 a1_2] 27 (0, 0))) := ⟨h0_⟩
                    have n1_ : Aside0 (w20.heap[gb233]? = some (.cells #[.bool a2_0, .int .i64 a2_1, .int .i64 a2_2] 27 (0, 0))) := ⟨h1_⟩
                    have n2_ : Aside0 (w20.heap[gb234]? = some (.cells #[.bool a3_0, .int .i64 a3_1, .int .i64 a3_2] 27 (0, 0))) := ⟨h2_⟩
                    have n3_ : Aside0 (Below w.heap.size w w20) := ⟨h3_⟩
                    clear BK232
                    clear BK233
                    clear BK234
                    clear HB
                    clear h0_ h1_ h2_ h3_
                    have BK232 := n0_
                    have BK233 := n1_
                    have BK234 := n2_
                    have HB := n3_
                    clear n0_ n1_ n2_ n3_
                    have hHeld : w20.cell? ⟨gb232, 0, none⟩ = some (.bool a1_0) ∧ w20.cell? ⟨gb232, 1, none⟩ = some (.int .i64 a1_1) ∧ w20.cell? ⟨gb232, 2, none⟩ = some (.int .i64 a1_2) ∧ w20.cell? ⟨gb233, 0, none⟩ = some (.bool a2_0) ∧ w20.cell? ⟨gb233, 1, none⟩ = some (.int .i64 a2_1) ∧ w20.cell? ⟨gb233, 2, none⟩ = some (.int .i64 a2_2) ∧ w20.cell? ⟨gb234, 0, none⟩ = some (.bool a3_0) ∧ w20.cell? ⟨gb234, 1, none⟩ = some (.int .i64 a3_1) ∧ w20.cell? ⟨gb234, 2, none⟩ = some (.int .i64 a3_2) := hS_
                    refine norm_ (a' := ?_) ?_ ?_
                    rotate_left
                    · simp only [putAll, Act.put, List.setIfInBounds_toArray, List.set_cons_zero, List.set_cons_succ]
                      rfl
                    refine two_ (i := 4) (j := 8) (Ni := some 15) (Nj := some 9) #[true, true, true, true, true, true, false, false, false, false] #[true, true, true, true, false, true, false, false, true, false] rfl rfl rfl rfl (two_of HT_.out (by kernel_rfl)) (by decide) (by decide) (fun K hK => ?_) (fun K hK => ?_)
                    · skip
                      refine goes_ Try.func19 (by kernel_rfl) rfl #[.agg #[.bool a2_0, .int .i64 a2_1, .int .i64 a2_2]] (by rfl) rfl rfl (by (try simp only [List.map_toArray, List.map_cons, List.map_nil]); first | done | rfl | (simp only [List.length_drop, List.length_take]; rfl)) ?_
                      with_reducible refine (laws_toSpan.calls a2_0 a2_1 a2_2 t238 t239 t240 _ A6.out).mono ?_
                      rintro e w21 ⟨rfl, hb⟩
                      refine ⟨_, rfl, ?_⟩
                      have n0_ := Aside0.mk (blk_below (g := gb232) (o := .cells #[.bool a1_0, .int .i64 a1_1, .int .i64 a1_2] 27 (0, 0)) (by (with_reducible repeat (first | refine blk_drewN ?_ _ | refine blk_drew ?_ | refine blk_alloc ?_ _)); exact BK232.out) hb)
                      have n1_ := Aside0.mk (blk_below (g := gb233) (o := .cells #[.bool a2_0, .int .i64 a2_1, .int .i64 a2_2] 27 (0, 0)) (by (with_reducible repeat (first | refine blk_drewN ?_ _ | refine blk_drew ?_ | refine blk_alloc ?_ _)); exact BK233.out) hb)
                      have n2_ := Aside0.mk (blk_below (g := gb234) (o := .cells #[.bool a3_0, .int .i64 a3_1, .int .i64 a3_2] 27 (0, 0)) (by (with_reducible repeat (first | refine blk_drewN ?_ _ | refine blk_drew ?_ | refine blk_alloc ?_ _)); exact BK234.out) hb)
                      have n3_ := Aside0.mk (below_step (by repeat (first | (with_reducible first | exact HB.out | apply below_alloc | apply pw_below_drewN | apply below_drew1 | refine below_set ?_ GE232.out | refine below_set ?_ GE233.out | refine below_set ?_ GE234.out) | exact HB.out)) hb)
                      clear BK232
                      clear BK233
                      clear BK234
                      clear HB
                      have BK232 := n0_
                      have BK233 := n1_
                      have BK234 := n2_
                      have HB := n3_
                      clear n0_ n1_ n2_ n3_
                      (try clear hb)
                      (try clear hb2)
                      (try clear hk)
                      (try clear hi)
                      refine hK.out _ _ ⟨(blk_cell BK232.out 0).trans rfl, (blk_cell BK232.out 1).trans rfl, (blk_cell BK232.out 2).trans rfl, (blk_cell BK233.out 0).trans rfl, (blk_cell BK233.out 1).trans rfl, (blk_cell BK233.out 2).trans rfl, (blk_cell BK234.out 0).trans rfl, (blk_cell BK234.out 1).trans rfl, (blk_cell BK234.out 2).trans rfl⟩ (fun hHeld => ?_)
                      clear hK K
                      refine norm_ (a' := ?_) ?_ ?_
                      rotate_left
                      · show Act.put _ (some 15) _ = _
                        simp only [Act.put, List.setIfInBounds_toArray, List.set_cons_zero, List.set_cons_succ, i64_w, i32_w]
                        rfl
                      exact norm_ (by first | (simp only [putAll, Act.put, List.setIfInBounds_toArray, List.set_cons_zero, List.set_cons_succ]; done) | (simp only [putAll, Act.put, List.setIfInBounds_toArray, List.set_cons_zero, List.set_cons_succ]; rfl)) (hJ2_4 () _ ⟨hHeld, (by (with_reducible repeat (first | refine blk_drewN ?_ _ | refine blk_drew ?_ | refine blk_alloc ?_ _)); exact BK232.out), (by (with_reducible repeat (first | refine blk_drewN ?_ _ | refine blk_drew ?_ | refine blk_alloc ?_ _)); exact BK233.out), (by (with_reducible repeat (first | refine blk_drewN ?_ _ | refine blk_drew ?_ | refine blk_alloc ?_ _)); exact BK234.out), (by repeat (first | (with_reducible first | exact HB.out | apply below_alloc | apply pw_below_drewN | apply below_drew1 | refine below_set ?_ GE232.out | refine below_set ?_ GE233.out | refine below_set ?_ GE234.out) | exact HB.out))⟩)
                    · skip
                      refine box_step ?hg (N := 9) ?hd (cs := #[.bool false, .int .i64 0, .int .i64 0]) (t := 23) ?hr ?_; (case hd => rfl); (case hg => rfl); (case hr => first | (go_simp; done) | (go_simp; rfl))
                      intro gb247 hg w21 hbox hb
                      have n0_ := Aside0.mk (blk_below (g := gb232) (o := .cells #[.bool a1_0, .int .i64 a1_1, .int .i64 a1_2] 27 (0, 0)) (by (with_reducible repeat (first | refine blk_drewN ?_ _ | refine blk_drew ?_ | refine blk_alloc ?_ _)); exact BK232.out) hb)
                      have n1_ := Aside0.mk (blk_below (g := gb233) (o := .cells #[.bool a2_0, .int .i64 a2_1, .int .i64 a2_2] 27 (0, 0)) (by (with_reducible repeat (first | refine blk_drewN ?_ _ | refine blk_drew ?_ | refine blk_alloc ?_ _)); exact BK233.out) hb)
                      have n2_ := Aside0.mk (blk_below (g := gb234) (o := .cells #[.bool a3_0, .int .i64 a3_1, .int .i64 a3_2] 27 (0, 0)) (by (with_reducible repeat (first | refine blk_drewN ?_ _ | refine blk_drew ?_ | refine blk_alloc ?_ _)); exact BK234.out) hb)
                      have n3_ := Aside0.mk (below_step (by repeat (first | (with_reducible first | exact HB.out | apply below_alloc | apply pw_below_drewN | apply below_drew1 | refine below_set ?_ GE232.out | refine below_set ?_ GE233.out | refine below_set ?_ GE234.out) | exact HB.out)) hb)
                      have n4_ := Aside0.mk (hbox)
                      have n5_ := Aside0.mk ((by rw [hg]; exact (below_size (by repeat (first | (with_reducible first | exact HB.out | apply below_alloc | apply pw_below_drewN | apply below_drew1 | refine below_set ?_ GE232.out | refine below_set ?_ GE233.out | refine below_set ?_ GE234.out) | exact HB.out))) : w.heap.size ≤ gb247))
                      have n6_ := Aside0.mk ((by rw [hg]; exact (below_size (by repeat (first | (with_reducible first | exact HB.out | apply below_alloc | apply pw_below_drewN | apply below_drew1 | refine below_set ?_ GE232.out | refine below_set ?_ GE233.out | refine below_set ?_ GE234.out) | exact HB.out))) : w.heap.size ≤ gb247))
                      have n7_ := Aside0.mk ((by rw [hg]; exact Nat.ne_of_lt (blk_lt (g := gb232) (o := .cells #[.bool a1_0, .int .i64 a1_1, .int .i64 a1_2] 27 (0, 0)) (by (with_reducible repeat (first | refine blk_drewN ?_ _ | refine blk_drew ?_ | refine blk_alloc ?_ _)); exact BK232.out)) : gb232 ≠ gb247))
                      have n8_ := Aside0.mk ((by rw [hg]; exact Nat.ne_of_gt (blk_lt (g := gb232) (o := .cells #[.bool a1_0, .int .i64 a1_1, .int .i64 a1_2] 27 (0, 0)) (by (with_reducible repeat (first | refine blk_drewN ?_ _ | refine blk_drew ?_ | refine blk_alloc ?_ _)); exact BK232.out)) : gb247 ≠ gb232))
                      have n9_ := Aside0.mk ((by rw [hg]; exact Nat.ne_of_lt (blk_lt (g := gb233) (o := .cells #[.bool a2_0, .int .i64 a2_1, .int .i64 a2_2] 27 (0, 0)) (by (with_reducible repeat (first | refine blk_drewN ?_ _ | refine blk_drew ?_ | refine blk_alloc ?_ _)); exact BK233.out)) : gb233 ≠ gb247))
                      have n10_ := Aside0.mk ((by rw [hg]; exact Nat.ne_of_gt (blk_lt (g := gb233) (o := .cells #[.bool a2_0, .int .i64 a2_1, .int .i64 a2_2] 27 (0, 0)) (by (with_reducible repeat (first | refine blk_drewN ?_ _ | refine blk_drew ?_ | refine blk_alloc ?_ _)); exact BK233.out)) : gb247 ≠ gb233))
                      have n11_ := Aside0.mk ((by rw [hg]; exact Nat.ne_of_lt (blk_lt (g := gb234) (o := .cells #[.bool a3_0, .int .i64 a3_1, .int .i64 a3_2] 27 (0, 0)) (by (with_reducible repeat (first | refine blk_drewN ?_ _ | refine blk_drew ?_ | refine blk_alloc ?_ _)); exact BK234.out)) : gb234 ≠ gb247))
                      have n12_ := Aside0.mk ((by rw [hg]; exact Nat.ne_of_gt (blk_lt (g := gb234) (o := .cells #[.bool a3_0, .int .i64 a3_1, .int .i64 a3_2] 27 (0, 0)) (by (with_reducible repeat (first | refine blk_drewN ?_ _ | refine blk_drew ?_ | refine blk_alloc ?_ _)); exact BK234.out)) : gb247 ≠ gb234))
                      clear BK232
                      clear BK233
                      clear BK234
                      clear HB
                      have BK232 := n0_
                      have BK233 := n1_
                      have BK234 := n2_
                      have HB := n3_
                      have BK247 := n4_
                      have GW247 := n5_
                      have GE247 := n6_
                      have NB232_247 := n7_
                      have NB247_232 := n8_
                      have NB233_247 := n9_
                      have NB247_233 := n10_
                      have NB234_247 := n11_
                      have NB247_234 := n12_
                      clear n0_ n1_ n2_ n3_ n4_ n5_ n6_ n7_ n8_ n9_ n10_ n11_ n12_
                      clear hb hbox hg
                      refine hK.out _ _ ⟨(blk_cell BK232.out 0).trans rfl, (blk_cell BK232.out 1).trans rfl, (blk_cell BK232.out 2).trans rfl, (blk_cell BK233.out 0).trans rfl, (blk_cell BK233.out 1).trans rfl, (blk_cell BK233.out 2).trans rfl, (blk_cell BK234.out 0).trans rfl, (blk_cell BK234.out 1).trans rfl, (blk_cell BK234.out 2).trans rfl⟩ (fun hHeld => ?_)
                      clear hK K
                      refine norm_ (a' := ?_) ?_ ?_
                      rotate_left
                      · show Act.put _ (some 9) _ = _
                        simp only [Act.put, List.setIfInBounds_toArray, List.set_cons_zero, List.set_cons_succ, i64_w, i32_w]
                        rfl
                      exact norm_ (by first | (simp only [putAll, Act.put, List.setIfInBounds_toArray, List.set_cons_zero, List.set_cons_succ]; done) | (simp only [putAll, Act.put, List.setIfInBounds_toArray, List.set_cons_zero, List.set_cons_succ]; rfl)) (hJ2_8 (gb247) _ ⟨hHeld, (by (with_reducible repeat (first | refine blk_drewN ?_ _ | refine blk_drew ?_ | refine blk_alloc ?_ _)); exact BK232.out), (by (with_reducible repeat (first | refine blk_drewN ?_ _ | refine blk_drew ?_ | refine blk_alloc ?_ _)); exact BK233.out), (by (with_reducible repeat (first | refine blk_drewN ?_ _ | refine blk_drew ?_ | refine blk_alloc ?_ _)); exact BK234.out), (by (with_reducible repeat (first | refine blk_drewN ?_ _ | refine blk_drew ?_ | refine blk_alloc ?_ _)); exact BK247.out), GW247.out, GE247.out, NB232_247.out, NB247_232.out, NB233_247.out, NB247_233.out, NB234_247.out, NB247_234.out, (by repeat (first | (with_reducible first | exact HB.out | apply below_alloc | apply pw_below_drewN | apply below_drew1 | refine below_set ?_ GE232.out | refine below_set ?_ GE233.out | refine below_set ?_ GE234.out | refine below_set ?_ GE247.out) | exact HB.out))⟩)
                · skip
                  rintro gb247 w21 ⟨hS_, h0_, h1_, h2_, h3_, h4_, h5_, h6_, h7_, h8_, h9_, h10_, h11_, h12_⟩
                  have n0_ : Aside0 (w21.heap[gb232]? = some (.cells #[.bool a1_0, .int .i64 a1_1, .int .i64 a1_2] 27 (0, 0))) := ⟨h0_⟩
                  have n1_ : Aside0 (w21.heap[gb233]? = some (.cells #[.bool a2_0, .int .i64 a2_1, .int .i64 a2_2] 27 (0, 0))) := ⟨h1_⟩
                  have n2_ : Aside0 (w21.heap[gb234]? = some (.cells #[.bool a3_0, .int .i64 a3_1, .int .i64 a3_2] 27 (0, 0))) := ⟨h2_⟩
                  have n3_ : Aside0 (w21.heap[gb247]? = some (.cells #[.bool false, .int .i64 0, .int .i64 0] 23 (0, 0))) := ⟨h3_⟩
                  have n4_ : Aside0 (w.heap.size ≤ gb247) := ⟨h4_⟩
                  have n5_ : Aside0 (w.heap.size ≤ gb247) := ⟨h5_⟩
                  have n6_ : Aside0 (gb232 ≠ gb247) := ⟨h6_⟩
                  have n7_ : Aside0 (gb247 ≠ gb232) := ⟨h7_⟩
                  have n8_ : Aside0 (gb233 ≠ gb247) := ⟨h8_⟩
                  have n9_ : Aside0 (gb247 ≠ gb233) := ⟨h9_⟩
                  have n10_ : Aside0 (gb234 ≠ gb247) := ⟨h10_⟩
                  have n11_ : Aside0 (gb247 ≠ gb234) := ⟨h11_⟩
                  have n12_ : Aside0 (Below w.heap.size w w21) := ⟨h12_⟩
                  clear BK232
                  clear BK233
                  clear BK234
                  clear HB
                  clear h0_ h1_ h2_ h3_ h4_ h5_ h6_ h7_ h8_ h9_ h10_ h11_ h12_
                  have BK232 := n0_
                  have BK233 := n1_
                  have BK234 := n2_
                  have BK247 := n3_
                  have GW247 := n4_
                  have GE247 := n5_
                  have NB232_247 := n6_
                  have NB247_232 := n7_
                  have NB233_247 := n8_
                  have NB247_233 := n9_
                  have NB234_247 := n10_
                  have NB247_234 := n11_
                  have HB := n12_
                  clear n0_ n1_ n2_ n3_ n4_ n5_ n6_ n7_ n8_ n9_ n10_ n11_ n12_
                  have hHeld : w21.cell? ⟨gb232, 0, none⟩ = some (.bool a1_0) ∧ w21.cell? ⟨gb232, 1, none⟩ = some (.int .i64 a1_1) ∧ w21.cell? ⟨gb232, 2, none⟩ = some (.int .i64 a1_2) ∧ w21.cell? ⟨gb233, 0, none⟩ = some (.bool a2_0) ∧ w21.cell? ⟨gb233, 1, none⟩ = some (.int .i64 a2_1) ∧ w21.cell? ⟨gb233, 2, none⟩ = some (.int .i64 a2_2) ∧ w21.cell? ⟨gb234, 0, none⟩ = some (.bool a3_0) ∧ w21.cell? ⟨gb234, 1, none⟩ = some (.int .i64 a3_1) ∧ w21.cell? ⟨gb234, 2, none⟩ = some (.int .i64 a3_2) := hS_
                  refine norm_ (a' := ?_) ?_ ?_
                  rotate_left
                  · simp only [putAll, Act.put, List.setIfInBounds_toArray, List.set_cons_zero, List.set_cons_succ]
                    rfl
                  refine one_ (i := 4) (N := some 15) #[true, true, true, true, true, true, false, false, true, false] rfl rfl (one_of HT_.out (by kernel_rfl)) (by decide) (fun K hK => ?_)
                  refine goes_ Try.func19 (by kernel_rfl) rfl #[.agg #[.bool a2_0, .int .i64 a2_1, .int .i64 a2_2]] (by rfl) rfl rfl (by (try simp only [List.map_toArray, List.map_cons, List.map_nil]); first | done | rfl | (simp only [List.length_drop, List.length_take]; rfl)) ?_
                  with_reducible refine (laws_toSpan.calls a2_0 a2_1 a2_2 t238 t239 t240 _ A6.out).mono ?_
                  rintro e w22 ⟨rfl, hb⟩
                  refine ⟨_, rfl, ?_⟩
                  have n0_ := Aside0.mk (blk_below (g := gb232) (o := .cells #[.bool a1_0, .int .i64 a1_1, .int .i64 a1_2] 27 (0, 0)) (by (with_reducible repeat (first | refine blk_drewN ?_ _ | refine blk_drew ?_ | refine blk_alloc ?_ _)); exact BK232.out) hb)
                  have n1_ := Aside0.mk (blk_below (g := gb233) (o := .cells #[.bool a2_0, .int .i64 a2_1, .int .i64 a2_2] 27 (0, 0)) (by (with_reducible repeat (first | refine blk_drewN ?_ _ | refine blk_drew ?_ | refine blk_alloc ?_ _)); exact BK233.out) hb)
                  have n2_ := Aside0.mk (blk_below (g := gb234) (o := .cells #[.bool a3_0, .int .i64 a3_1, .int .i64 a3_2] 27 (0, 0)) (by (with_reducible repeat (first | refine blk_drewN ?_ _ | refine blk_drew ?_ | refine blk_alloc ?_ _)); exact BK234.out) hb)
                  have n3_ := Aside0.mk (blk_below (g := gb247) (o := .cells #[.bool false, .int .i64 0, .int .i64 0] 23 (0, 0)) (by (with_reducible repeat (first | refine blk_drewN ?_ _ | refine blk_drew ?_ | refine blk_alloc ?_ _)); exact BK247.out) hb)
                  have n4_ := Aside0.mk (below_step (by repeat (first | (with_reducible first | exact HB.out | apply below_alloc | apply pw_below_drewN | apply below_drew1 | refine below_set ?_ GE232.out | refine below_set ?_ GE233.out | refine below_set ?_ GE234.out | refine below_set ?_ GE247.out) | exact HB.out)) hb)
                  clear BK232
                  clear BK233
                  clear BK234
                  clear BK247
                  clear HB
                  have BK232 := n0_
                  have BK233 := n1_
                  have BK234 := n2_
                  have BK247 := n3_
                  have HB := n4_
                  clear n0_ n1_ n2_ n3_ n4_
                  (try clear hb)
                  (try clear hb2)
                  (try clear hk)
                  (try clear hi)
                  refine hK.out _ _ ⟨(blk_cell BK232.out 0).trans rfl, (blk_cell BK232.out 1).trans rfl, (blk_cell BK232.out 2).trans rfl, (blk_cell BK233.out 0).trans rfl, (blk_cell BK233.out 1).trans rfl, (blk_cell BK233.out 2).trans rfl, (blk_cell BK234.out 0).trans rfl, (blk_cell BK234.out 1).trans rfl, (blk_cell BK234.out 2).trans rfl⟩ (fun hHeld => ?_)
                  clear hK K
                  refine norm_ (a' := ?_) ?_ ?_
                  rotate_left
                  · show Act.put _ (some 15) _ = _
                    simp only [Act.put, List.setIfInBounds_toArray, List.set_cons_zero, List.set_cons_succ, i64_w, i32_w]
                    rfl
                  exact norm_ (by first | (simp only [putAll, Act.put, List.setIfInBounds_toArray, List.set_cons_zero, List.set_cons_succ]; done) | (simp only [putAll, Act.put, List.setIfInBounds_toArray, List.set_cons_zero, List.set_cons_succ]; rfl)) (hJ2_4_8 (gb247) _ ⟨hHeld, (by (with_reducible repeat (first | refine blk_drewN ?_ _ | refine blk_drew ?_ | refine blk_alloc ?_ _)); exact BK232.out), (by (with_reducible repeat (first | refine blk_drewN ?_ _ | refine blk_drew ?_ | refine blk_alloc ?_ _)); exact BK233.out), (by (with_reducible repeat (first | refine blk_drewN ?_ _ | refine blk_drew ?_ | refine blk_alloc ?_ _)); exact BK234.out), (by (with_reducible repeat (first | refine blk_drewN ?_ _ | refine blk_drew ?_ | refine blk_alloc ?_ _)); exact BK247.out), GW247.out, GE247.out, NB232_247.out, NB247_232.out, NB233_247.out, NB247_233.out, NB234_247.out, NB247_234.out, (by repeat (first | (with_reducible first | exact HB.out | apply below_alloc | apply pw_below_drewN | apply below_drew1 | refine below_set ?_ GE232.out | refine below_set ?_ GE233.out | refine below_set ?_ GE234.out | refine below_set ?_ GE247.out) | exact HB.out))⟩)
              · skip
                rintro _ w21 ⟨hS_, h0_, h1_, h2_, h3_⟩
                have n0_ : Aside0 (w21.heap[gb232]? = some (.cells #[.bool a1_0, .int .i64 a1_1, .int .i64 a1_2] 27 (0, 0))) := ⟨h0_⟩
                have n1_ : Aside0 (w21.heap[gb233]? = some (.cells #[.bool a2_0, .int .i64 a2_1, .int .i64 a2_2] 27 (0, 0))) := ⟨h1_⟩
                have n2_ : Aside0 (w21.heap[gb234]? = some (.cells #[.bool a3_0, .int .i64 a3_1, .int .i64 a3_2] 27 (0, 0))) := ⟨h2_⟩
                have n3_ : Aside0 (Below w.heap.size w w21) := ⟨h3_⟩
                clear BK232
                clear BK233
                clear BK234
                clear HB
                clear h0_ h1_ h2_ h3_
                have BK232 := n0_
                have BK233 := n1_
                have BK234 := n2_
                have HB := n3_
                clear n0_ n1_ n2_ n3_
                have hHeld : w21.cell? ⟨gb232, 0, none⟩ = some (.bool a1_0) ∧ w21.cell? ⟨gb232, 1, none⟩ = some (.int .i64 a1_1) ∧ w21.cell? ⟨gb232, 2, none⟩ = some (.int .i64 a1_2) ∧ w21.cell? ⟨gb233, 0, none⟩ = some (.bool a2_0) ∧ w21.cell? ⟨gb233, 1, none⟩ = some (.int .i64 a2_1) ∧ w21.cell? ⟨gb233, 2, none⟩ = some (.int .i64 a2_2) ∧ w21.cell? ⟨gb234, 0, none⟩ = some (.bool a3_0) ∧ w21.cell? ⟨gb234, 1, none⟩ = some (.int .i64 a3_1) ∧ w21.cell? ⟨gb234, 2, none⟩ = some (.int .i64 a3_2) := hS_
                refine norm_ (a' := ?_) ?_ ?_
                rotate_left
                · simp only [putAll, Act.put, List.setIfInBounds_toArray, List.set_cons_zero, List.set_cons_succ]
                  rfl
                refine two_ (i := 6) (j := 8) (Ni := some 17) (Nj := some 9) #[true, true, true, true, true, true, true, false, false, false] #[true, true, true, true, true, true, false, false, true, false] rfl rfl rfl rfl (two_of HT_.out (by kernel_rfl)) (by decide) (by decide) (fun K hK => ?_) (fun K hK => ?_)
                · skip
                  refine goes_ Try.func19 (by kernel_rfl) rfl #[.agg #[.bool a3_0, .int .i64 a3_1, .int .i64 a3_2]] (by rfl) rfl rfl (by (try simp only [List.map_toArray, List.map_cons, List.map_nil]); first | done | rfl | (simp only [List.length_drop, List.length_take]; rfl)) ?_
                  with_reducible refine (laws_toSpan.calls a3_0 a3_1 a3_2 t241 t242 t243 _ A7.out).mono ?_
                  rintro e w22 ⟨rfl, hb⟩
                  refine ⟨_, rfl, ?_⟩
                  have n0_ := Aside0.mk (blk_below (g := gb232) (o := .cells #[.bool a1_0, .int .i64 a1_1, .int .i64 a1_2] 27 (0, 0)) (by (with_reducible repeat (first | refine blk_drewN ?_ _ | refine blk_drew ?_ | refine blk_alloc ?_ _)); exact BK232.out) hb)
                  have n1_ := Aside0.mk (blk_below (g := gb233) (o := .cells #[.bool a2_0, .int .i64 a2_1, .int .i64 a2_2] 27 (0, 0)) (by (with_reducible repeat (first | refine blk_drewN ?_ _ | refine blk_drew ?_ | refine blk_alloc ?_ _)); exact BK233.out) hb)
                  have n2_ := Aside0.mk (blk_below (g := gb234) (o := .cells #[.bool a3_0, .int .i64 a3_1, .int .i64 a3_2] 27 (0, 0)) (by (with_reducible repeat (first | refine blk_drewN ?_ _ | refine blk_drew ?_ | refine blk_alloc ?_ _)); exact BK234.out) hb)
                  have n3_ := Aside0.mk (below_step (by repeat (first | (with_reducible first | exact HB.out | apply below_alloc | apply pw_below_drewN | apply below_drew1 | refine below_set ?_ GE232.out | refine below_set ?_ GE233.out | refine below_set ?_ GE234.out) | exact HB.out)) hb)
                  clear BK232
                  clear BK233
                  clear BK234
                  clear HB
                  have BK232 := n0_
                  have BK233 := n1_
                  have BK234 := n2_
                  have HB := n3_
                  clear n0_ n1_ n2_ n3_
                  (try clear hb)
                  (try clear hb2)
                  (try clear hk)
                  (try clear hi)
                  refine hK.out _ _ ⟨(blk_cell BK232.out 0).trans rfl, (blk_cell BK232.out 1).trans rfl, (blk_cell BK232.out 2).trans rfl, (blk_cell BK233.out 0).trans rfl, (blk_cell BK233.out 1).trans rfl, (blk_cell BK233.out 2).trans rfl, (blk_cell BK234.out 0).trans rfl, (blk_cell BK234.out 1).trans rfl, (blk_cell BK234.out 2).trans rfl⟩ (fun hHeld => ?_)
                  clear hK K
                  refine norm_ (a' := ?_) ?_ ?_
                  rotate_left
                  · show Act.put _ (some 17) _ = _
                    simp only [Act.put, List.setIfInBounds_toArray, List.set_cons_zero, List.set_cons_succ, i64_w, i32_w]
                    rfl
                  exact norm_ (by first | (simp only [putAll, Act.put, List.setIfInBounds_toArray, List.set_cons_zero, List.set_cons_succ]; done) | (simp only [putAll, Act.put, List.setIfInBounds_toArray, List.set_cons_zero, List.set_cons_succ]; rfl)) (hJ2_4_6 () _ ⟨hHeld, (by (with_reducible repeat (first | refine blk_drewN ?_ _ | refine blk_drew ?_ | refine blk_alloc ?_ _)); exact BK232.out), (by (with_reducible repeat (first | refine blk_drewN ?_ _ | refine blk_drew ?_ | refine blk_alloc ?_ _)); exact BK233.out), (by (with_reducible repeat (first | refine blk_drewN ?_ _ | refine blk_drew ?_ | refine blk_alloc ?_ _)); exact BK234.out), (by repeat (first | (with_reducible first | exact HB.out | apply below_alloc | apply pw_below_drewN | apply below_drew1 | refine below_set ?_ GE232.out | refine below_set ?_ GE233.out | refine below_set ?_ GE234.out) | exact HB.out))⟩)
                · skip
                  refine box_step ?hg (N := 9) ?hd (cs := #[.bool false, .int .i64 0, .int .i64 0]) (t := 23) ?hr ?_; (case hd => rfl); (case hg => rfl); (case hr => first | (go_simp; done) | (go_simp; rfl))
                  intro gb247 hg w22 hbox hb
                  have n0_ := Aside0.mk (blk_below (g := gb232) (o := .cells #[.bool a1_0, .int .i64 a1_1, .int .i64 a1_2] 27 (0, 0)) (by (with_reducible repeat (first | refine blk_drewN ?_ _ | refine blk_drew ?_ | refine blk_alloc ?_ _)); exact BK232.out) hb)
                  have n1_ := Aside0.mk (blk_below (g := gb233) (o := .cells #[.bool a2_0, .int .i64 a2_1, .int .i64 a2_2] 27 (0, 0)) (by (with_reducible repeat (first | refine blk_drewN ?_ _ | refine blk_drew ?_ | refine blk_alloc ?_ _)); exact BK233.out) hb)
                  have n2_ := Aside0.mk (blk_below (g := gb234) (o := .cells #[.bool a3_0, .int .i64 a3_1, .int .i64 a3_2] 27 (0, 0)) (by (with_reducible repeat (first | refine blk_drewN ?_ _ | refine blk_drew ?_ | refine blk_alloc ?_ _)); exact BK234.out) hb)
                  have n3_ := Aside0.mk (below_step (by repeat (first | (with_reducible first | exact HB.out | apply below_alloc | apply pw_below_drewN | apply below_drew1 | refine below_set ?_ GE232.out | refine below_set ?_ GE233.out | refine below_set ?_ GE234.out) | exact HB.out)) hb)
                  have n4_ := Aside0.mk (hbox)
                  have n5_ := Aside0.mk ((by rw [hg]; exact (below_size (by repeat (first | (with_reducible first | exact HB.out | apply below_alloc | apply pw_below_drewN | apply below_drew1 | refine below_set ?_ GE232.out | refine below_set ?_ GE233.out | refine below_set ?_ GE234.out) | exact HB.out))) : w.heap.size ≤ gb247))
                  have n6_ := Aside0.mk ((by rw [hg]; exact (below_size (by repeat (first | (with_reducible first | exact HB.out | apply below_alloc | apply pw_below_drewN | apply below_drew1 | refine below_set ?_ GE232.out | refine below_set ?_ GE233.out | refine below_set ?_ GE234.out) | exact HB.out))) : w.heap.size ≤ gb247))
                  have n7_ := Aside0.mk ((by rw [hg]; exact Nat.ne_of_lt (blk_lt (g := gb232) (o := .cells #[.bool a1_0, .int .i64 a1_1, .int .i64 a1_2] 27 (0, 0)) (by (with_reducible repeat (first | refine blk_drewN ?_ _ | refine blk_drew ?_ | refine blk_alloc ?_ _)); exact BK232.out)) : gb232 ≠ gb247))
                  have n8_ := Aside0.mk ((by rw [hg]; exact Nat.ne_of_gt (blk_lt (g := gb232) (o := .cells #[.bool a1_0, .int .i64 a1_1, .int .i64 a1_2] 27 (0, 0)) (by (with_reducible repeat (first | refine blk_drewN ?_ _ | refine blk_drew ?_ | refine blk_alloc ?_ _)); exact BK232.out)) : gb247 ≠ gb232))
                  have n9_ := Aside0.mk ((by rw [hg]; exact Nat.ne_of_lt (blk_lt (g := gb233) (o := .cells #[.bool a2_0, .int .i64 a2_1, .int .i64 a2_2] 27 (0, 0)) (by (with_reducible repeat (first | refine blk_drewN ?_ _ | refine blk_drew ?_ | refine blk_alloc ?_ _)); exact BK233.out)) : gb233 ≠ gb247))
                  have n10_ := Aside0.mk ((by rw [hg]; exact Nat.ne_of_gt (blk_lt (g := gb233) (o := .cells #[.bool a2_0, .int .i64 a2_1, .int .i64 a2_2] 27 (0, 0)) (by (with_reducible repeat (first | refine blk_drewN ?_ _ | refine blk_drew ?_ | refine blk_alloc ?_ _)); exact BK233.out)) : gb247 ≠ gb233))
                  have n11_ := Aside0.mk ((by rw [hg]; exact Nat.ne_of_lt (blk_lt (g := gb234) (o := .cells #[.bool a3_0, .int .i64 a3_1, .int .i64 a3_2] 27 (0, 0)) (by (with_reducible repeat (first | refine blk_drewN ?_ _ | refine blk_drew ?_ | refine blk_alloc ?_ _)); exact BK234.out)) : gb234 ≠ gb247))
                  have n12_ := Aside0.mk ((by rw [hg]; exact Nat.ne_of_gt (blk_lt (g := gb234) (o := .cells #[.bool a3_0, .int .i64 a3_1, .int .i64 a3_2] 27 (0, 0)) (by (with_reducible repeat (first | refine blk_drewN ?_ _ | refine blk_drew ?_ | refine blk_alloc ?_ _)); exact BK234.out)) : gb247 ≠ gb234))
                  clear BK232
                  clear BK233
                  clear BK234
                  clear HB
                  have BK232 := n0_
                  have BK233 := n1_
                  have BK234 := n2_
                  have HB := n3_
                  have BK247 := n4_
                  have GW247 := n5_
                  have GE247 := n6_
                  have NB232_247 := n7_
                  have NB247_232 := n8_
                  have NB233_247 := n9_
                  have NB247_233 := n10_
                  have NB234_247 := n11_
                  have NB247_234 := n12_
                  clear n0_ n1_ n2_ n3_ n4_ n5_ n6_ n7_ n8_ n9_ n10_ n11_ n12_
                  clear hb hbox hg
                  refine hK.out _ _ ⟨(blk_cell BK232.out 0).trans rfl, (blk_cell BK232.out 1).trans rfl, (blk_cell BK232.out 2).trans rfl, (blk_cell BK233.out 0).trans rfl, (blk_cell BK233.out 1).trans rfl, (blk_cell BK233.out 2).trans rfl, (blk_cell BK234.out 0).trans rfl, (blk_cell BK234.out 1).trans rfl, (blk_cell BK234.out 2).trans rfl⟩ (fun hHeld => ?_)
                  clear hK K
                  refine norm_ (a' := ?_) ?_ ?_
                  rotate_left
                  · show Act.put _ (some 9) _ = _
                    simp only [Act.put, List.setIfInBounds_toArray, List.set_cons_zero, List.set_cons_succ, i64_w, i32_w]
                    rfl
                  exact norm_ (by first | (simp only [putAll, Act.put, List.setIfInBounds_toArray, List.set_cons_zero, List.set_cons_succ]; done) | (simp only [putAll, Act.put, List.setIfInBounds_toArray, List.set_cons_zero, List.set_cons_succ]; rfl)) (hJ2_4_8 (gb247) _ ⟨hHeld, (by (with_reducible repeat (first | refine blk_drewN ?_ _ | refine blk_drew ?_ | refine blk_alloc ?_ _)); exact BK232.out), (by (with_reducible repeat (first | refine blk_drewN ?_ _ | refine blk_drew ?_ | refine blk_alloc ?_ _)); exact BK233.out), (by (with_reducible repeat (first | refine blk_drewN ?_ _ | refine blk_drew ?_ | refine blk_alloc ?_ _)); exact BK234.out), (by (with_reducible repeat (first | refine blk_drewN ?_ _ | refine blk_drew ?_ | refine blk_alloc ?_ _)); exact BK247.out), GW247.out, GE247.out, NB232_247.out, NB247_232.out, NB233_247.out, NB247_233.out, NB234_247.out, NB247_234.out, (by repeat (first | (with_reducible first | exact HB.out | apply below_alloc | apply pw_below_drewN | apply below_drew1 | refine below_set ?_ GE232.out | refine below_set ?_ GE233.out | refine below_set ?_ GE234.out | refine below_set ?_ GE247.out) | exact HB.out))⟩)
            · skip
              rintro gb247 w22 ⟨hS_, h0_, h1_, h2_, h3_, h4_, h5_, h6_, h7_, h8_, h9_, h10_, h11_, h12_⟩
              have n0_ : Aside0 (w22.heap[gb232]? = some (.cells #[.bool a1_0, .int .i64 a1_1, .int .i64 a1_2] 27 (0, 0))) := ⟨h0_⟩
              have n1_ : Aside0 (w22.heap[gb233]? = some (.cells #[.bool a2_0, .int .i64 a2_1, .int .i64 a2_2] 27 (0, 0))) := ⟨h1_⟩
              have n2_ : Aside0 (w22.heap[gb234]? = some (.cells #[.bool a3_0, .int .i64 a3_1, .int .i64 a3_2] 27 (0, 0))) := ⟨h2_⟩
              have n3_ : Aside0 (w22.heap[gb247]? = some (.cells #[.bool false, .int .i64 0, .int .i64 0] 23 (0, 0))) := ⟨h3_⟩
              have n4_ : Aside0 (w.heap.size ≤ gb247) := ⟨h4_⟩
              have n5_ : Aside0 (w.heap.size ≤ gb247) := ⟨h5_⟩
              have n6_ : Aside0 (gb232 ≠ gb247) := ⟨h6_⟩
              have n7_ : Aside0 (gb247 ≠ gb232) := ⟨h7_⟩
              have n8_ : Aside0 (gb233 ≠ gb247) := ⟨h8_⟩
              have n9_ : Aside0 (gb247 ≠ gb233) := ⟨h9_⟩
              have n10_ : Aside0 (gb234 ≠ gb247) := ⟨h10_⟩
              have n11_ : Aside0 (gb247 ≠ gb234) := ⟨h11_⟩
              have n12_ : Aside0 (Below w.heap.size w w22) := ⟨h12_⟩
              clear BK232
              clear BK233
              clear BK234
              clear HB
              clear h0_ h1_ h2_ h3_ h4_ h5_ h6_ h7_ h8_ h9_ h10_ h11_ h12_
              have BK232 := n0_
              have BK233 := n1_
              have BK234 := n2_
              have BK247 := n3_
              have GW247 := n4_
              have GE247 := n5_
              have NB232_247 := n6_
              have NB247_232 := n7_
              have NB233_247 := n8_
              have NB247_233 := n9_
              have NB234_247 := n10_
              have NB247_234 := n11_
              have HB := n12_
              clear n0_ n1_ n2_ n3_ n4_ n5_ n6_ n7_ n8_ n9_ n10_ n11_ n12_
              have hHeld : w22.cell? ⟨gb232, 0, none⟩ = some (.bool a1_0) ∧ w22.cell? ⟨gb232, 1, none⟩ = some (.int .i64 a1_1) ∧ w22.cell? ⟨gb232, 2, none⟩ = some (.int .i64 a1_2) ∧ w22.cell? ⟨gb233, 0, none⟩ = some (.bool a2_0) ∧ w22.cell? ⟨gb233, 1, none⟩ = some (.int .i64 a2_1) ∧ w22.cell? ⟨gb233, 2, none⟩ = some (.int .i64 a2_2) ∧ w22.cell? ⟨gb234, 0, none⟩ = some (.bool a3_0) ∧ w22.cell? ⟨gb234, 1, none⟩ = some (.int .i64 a3_1) ∧ w22.cell? ⟨gb234, 2, none⟩ = some (.int .i64 a3_2) := hS_
              refine norm_ (a' := ?_) ?_ ?_
              rotate_left
              · simp only [putAll, Act.put, List.setIfInBounds_toArray, List.set_cons_zero, List.set_cons_succ]
                rfl
              refine one_ (i := 6) (N := some 17) #[true, true, true, true, true, true, true, false, true, false] rfl rfl (one_of HT_.out (by kernel_rfl)) (by decide) (fun K hK => ?_)
              refine goes_ Try.func19 (by kernel_rfl) rfl #[.agg #[.bool a3_0, .int .i64 a3_1, .int .i64 a3_2]] (by rfl) rfl rfl (by (try simp only [List.map_toArray, List.map_cons, List.map_nil]); first | done | rfl | (simp only [List.length_drop, List.length_take]; rfl)) ?_
              with_reducible refine (laws_toSpan.calls a3_0 a3_1 a3_2 t241 t242 t243 _ A7.out).mono ?_
              rintro e w23 ⟨rfl, hb⟩
              refine ⟨_, rfl, ?_⟩
              have n0_ := Aside0.mk (blk_below (g := gb232) (o := .cells #[.bool a1_0, .int .i64 a1_1, .int .i64 a1_2] 27 (0, 0)) (by (with_reducible repeat (first | refine blk_drewN ?_ _ | refine blk_drew ?_ | refine blk_alloc ?_ _)); exact BK232.out) hb)
              have n1_ := Aside0.mk (blk_below (g := gb233) (o := .cells #[.bool a2_0, .int .i64 a2_1, .int .i64 a2_2] 27 (0, 0)) (by (with_reducible repeat (first | refine blk_drewN ?_ _ | refine blk_drew ?_ | refine blk_alloc ?_ _)); exact BK233.out) hb)
              have n2_ := Aside0.mk (blk_below (g := gb234) (o := .cells #[.bool a3_0, .int .i64 a3_1, .int .i64 a3_2] 27 (0, 0)) (by (with_reducible repeat (first | refine blk_drewN ?_ _ | refine blk_drew ?_ | refine blk_alloc ?_ _)); exact BK234.out) hb)
              have n3_ := Aside0.mk (blk_below (g := gb247) (o := .cells #[.bool false, .int .i64 0, .int .i64 0] 23 (0, 0)) (by (with_reducible repeat (first | refine blk_drewN ?_ _ | refine blk_drew ?_ | refine blk_alloc ?_ _)); exact BK247.out) hb)
              have n4_ := Aside0.mk (below_step (by repeat (first | (with_reducible first | exact HB.out | apply below_alloc | apply pw_below_drewN | apply below_drew1 | refine below_set ?_ GE232.out | refine below_set ?_ GE233.out | refine below_set ?_ GE234.out | refine below_set ?_ GE247.out) | exact HB.out)) hb)
              clear BK232
              clear BK233
              clear BK234
              clear BK247
              clear HB
              have BK232 := n0_
              have BK233 := n1_
              have BK234 := n2_
              have BK247 := n3_
              have HB := n4_
              clear n0_ n1_ n2_ n3_ n4_
              (try clear hb)
              (try clear hb2)
              (try clear hk)
              (try clear hi)
              refine hK.out _ _ ⟨(blk_cell BK232.out 0).trans rfl, (blk_cell BK232.out 1).trans rfl, (blk_cell BK232.out 2).trans rfl, (blk_cell BK233.out 0).trans rfl, (blk_cell BK233.out 1).trans rfl, (blk_cell BK233.out 2).trans rfl, (blk_cell BK234.out 0).trans rfl, (blk_cell BK234.out 1).trans rfl, (blk_cell BK234.out 2).trans rfl⟩ (fun hHeld => ?_)
              clear hK K
              refine norm_ (a' := ?_) ?_ ?_
              rotate_left
              · show Act.put _ (some 17) _ = _
                simp only [Act.put, List.setIfInBounds_toArray, List.set_cons_zero, List.set_cons_succ, i64_w, i32_w]
                rfl
              exact norm_ (by first | (simp only [putAll, Act.put, List.setIfInBounds_toArray, List.set_cons_zero, List.set_cons_succ]; done) | (simp only [putAll, Act.put, List.setIfInBounds_toArray, List.set_cons_zero, List.set_cons_succ]; rfl)) (hJ2_4_6_8 (gb247) _ ⟨hHeld, (by (with_reducible repeat (first | refine blk_drewN ?_ _ | refine blk_drew ?_ | refine blk_alloc ?_ _)); exact BK232.out), (by (with_reducible repeat (first | refine blk_drewN ?_ _ | refine blk_drew ?_ | refine blk_alloc ?_ _)); exact BK233.out), (by (with_reducible repeat (first | refine blk_drewN ?_ _ | refine blk_drew ?_ | refine blk_alloc ?_ _)); exact BK234.out), (by (with_reducible repeat (first | refine blk_drewN ?_ _ | refine blk_drew ?_ | refine blk_alloc ?_ _)); exact BK247.out), GW247.out, GE247.out, NB232_247.out, NB247_232.out, NB233_247.out, NB247_233.out, NB234_247.out, NB247_234.out, (by repeat (first | (with_reducible first | exact HB.out | apply below_alloc | apply pw_below_drewN | apply below_drew1 | refine below_set ?_ GE232.out | refine below_set ?_ GE233.out | refine below_set ?_ GE234.out | refine below_set ?_ GE247.out) | exact HB.out))⟩)
          · skip
            rintro _ w22 ⟨hS_, h0_, h1_, h2_, h3_⟩
            have n0_ : Aside0 (w22.heap[gb232]? = some (.cells #[.bool a1_0, .int .i64 a1_1, .int .i64 a1_2] 27 (0, 0))) := ⟨h0_⟩
            have n1_ : Aside0 (w22.heap[gb233]? = some (.cells #[.bool a2_0, .int .i64 a2_1, .int .i64 a2_2] 27 (0, 0))) := ⟨h1_⟩
            have n2_ : Aside0 (w22.heap[gb234]? = some (.cells #[.bool a3_0, .int .i64 a3_1, .int .i64 a3_2] 27 (0, 0))) := ⟨h2_⟩
            have n3_ : Aside0 (Below w.heap.size w w22) := ⟨h3_⟩
            clear BK232
            clear BK233
            clear BK234
            clear HB
            clear h0_ h1_ h2_ h3_
            have BK232 := n0_
            have BK233 := n1_
            have BK234 := n2_
            have HB := n3_
            clear n0_ n1_ n2_ n3_
            have hHeld : w22.cell? ⟨gb232, 0, none⟩ = some (.bool a1_0) ∧ w22.cell? ⟨gb232, 1, none⟩ = some (.int .i64 a1_1) ∧ w22.cell? ⟨gb232, 2, none⟩ = some (.int .i64 a1_2) ∧ w22.cell? ⟨gb233, 0, none⟩ = some (.bool a2_0) ∧ w22.cell? ⟨gb233, 1, none⟩ = some (.int .i64 a2_1) ∧ w22.cell? ⟨gb233, 2, none⟩ = some (.int .i64 a2_2) ∧ w22.cell? ⟨gb234, 0, none⟩ = some (.bool a3_0) ∧ w22.cell? ⟨gb234, 1, none⟩ = some (.int .i64 a3_1) ∧ w22.cell? ⟨gb234, 2, none⟩ = some (.int .i64 a3_2) := hS_
            refine norm_ (a' := ?_) ?_ ?_
            rotate_left
            · simp only [putAll, Act.put, List.setIfInBounds_toArray, List.set_cons_zero, List.set_cons_succ]
              rfl
            refine two_ (i := 7) (j := 8) (Ni := some 18) (Nj := some 9) #[true, true, true, true, true, true, true, true, false, false] #[true, true, true, true, true, true, true, false, true, false] rfl rfl rfl rfl (two_of HT_.out (by kernel_rfl)) (by decide) (by decide) (fun K hK => ?_) (fun K hK => ?_)
            · skip
              refine goes_ Try.func33 (by kernel_rfl) rfl #[.int .i64 a0, .agg #[.bool t235, .int .i64 t236, .int .i64 t237], .agg #[.bool t238, .int .i64 t239, .int .i64 t240], .agg #[.bool t241, .int .i64 t242, .int .i64 t243]] (by rfl) rfl rfl (by (try simp only [List.map_toArray, List.map_cons, List.map_nil]); first | done | rfl | (simp only [List.length_drop, List.length_take]; rfl)) ?_
              with_reducible refine (spec_BackMin.calls k a0 t235 t236 t237 t238 t239 t240 t241 t242 t243 t244 t245 t246 _ A8.out).mono ?_
              rintro e w23 ⟨rfl, hb⟩
              refine ⟨_, rfl, ?_⟩
              have n0_ := Aside0.mk (blk_below (g := gb232) (o := .cells #[.bool a1_0, .int .i64 a1_1, .int .i64 a1_2] 27 (0, 0)) (by (with_reducible repeat (first | refine blk_drewN ?_ _ | refine blk_drew ?_ | refine blk_alloc ?_ _)); exact BK232.out) hb)
              have n1_ := Aside0.mk (blk_below (g := gb233) (o := .cells #[.bool a2_0, .int .i64 a2_1, .int .i64 a2_2] 27 (0, 0)) (by (with_reducible repeat (first | refine blk_drewN ?_ _ | refine blk_drew ?_ | refine blk_alloc ?_ _)); exact BK233.out) hb)
              have n2_ := Aside0.mk (blk_below (g := gb234) (o := .cells #[.bool a3_0, .int .i64 a3_1, .int .i64 a3_2] 27 (0, 0)) (by (with_reducible repeat (first | refine blk_drewN ?_ _ | refine blk_drew ?_ | refine blk_alloc ?_ _)); exact BK234.out) hb)
              have n3_ := Aside0.mk (below_step (by repeat (first | (with_reducible first | exact HB.out | apply below_alloc | apply pw_below_drewN | apply below_drew1 | refine below_set ?_ GE232.out | refine below_set ?_ GE233.out | refine below_set ?_ GE234.out) | exact HB.out)) hb)
              clear BK232
              clear BK233
              clear BK234
              clear HB
              have BK232 := n0_
              have BK233 := n1_
              have BK234 := n2_
              have HB := n3_
              clear n0_ n1_ n2_ n3_
              (try clear hb)
              (try clear hb2)
              (try clear hk)
              (try clear hi)
              refine hK.out _ _ ⟨(blk_cell BK232.out 0).trans rfl, (blk_cell BK232.out 1).trans rfl, (blk_cell BK232.out 2).trans rfl, (blk_cell BK233.out 0).trans rfl, (blk_cell BK233.out 1).trans rfl, (blk_cell BK233.out 2).trans rfl, (blk_cell BK234.out 0).trans rfl, (blk_cell BK234.out 1).trans rfl, (blk_cell BK234.out 2).trans rfl⟩ (fun hHeld => ?_)
              clear hK K
              refine norm_ (a' := ?_) ?_ ?_
              rotate_left
              · show Act.put _ (some 18) _ = _
                simp only [Act.put, List.setIfInBounds_toArray, List.set_cons_zero, List.set_cons_succ, i64_w, i32_w]
                rfl
              exact norm_ (by first | (simp only [putAll, Act.put, List.setIfInBounds_toArray, List.set_cons_zero, List.set_cons_succ]; done) | (simp only [putAll, Act.put, List.setIfInBounds_toArray, List.set_cons_zero, List.set_cons_succ]; rfl)) (hJ2_4_6_7 () _ ⟨hHeld, (by (with_reducible repeat (first | refine blk_drewN ?_ _ | refine blk_drew ?_ | refine blk_alloc ?_ _)); exact BK232.out), (by (with_reducible repeat (first | refine blk_drewN ?_ _ | refine blk_drew ?_ | refine blk_alloc ?_ _)); exact BK233.out), (by (with_reducible repeat (first | refine blk_drewN ?_ _ | refine blk_drew ?_ | refine blk_alloc ?_ _)); exact BK234.out), (by repeat (first | (with_reducible first | exact HB.out | apply below_alloc | apply pw_below_drewN | apply below_drew1 | refine below_set ?_ GE232.out | refine below_set ?_ GE233.out | refine below_set ?_ GE234.out) | exact HB.out))⟩)
            · skip
              refine box_step ?hg (N := 9) ?hd (cs := #[.bool false, .int .i64 0, .int .i64 0]) (t := 23) ?hr ?_; (case hd => rfl); (case hg => rfl); (case hr => first | (go_simp; done) | (go_simp; rfl))
              intro gb247 hg w23 hbox hb
              have n0_ := Aside0.mk (blk_below (g := gb232) (o := .cells #[.bool a1_0, .int .i64 a1_1, .int .i64 a1_2] 27 (0, 0)) (by (with_reducible repeat (first | refine blk_drewN ?_ _ | refine blk_drew ?_ | refine blk_alloc ?_ _)); exact BK232.out) hb)
              have n1_ := Aside0.mk (blk_below (g := gb233) (o := .cells #[.bool a2_0, .int .i64 a2_1, .int .i64 a2_2] 27 (0, 0)) (by (with_reducible repeat (first | refine blk_drewN ?_ _ | refine blk_drew ?_ | refine blk_alloc ?_ _)); exact BK233.out) hb)
              have n2_ := Aside0.mk (blk_below (g := gb234) (o := .cells #[.bool a3_0, .int .i64 a3_1, .int .i64 a3_2] 27 (0, 0)) (by (with_reducible repeat (first | refine blk_drewN ?_ _ | refine blk_drew ?_ | refine blk_alloc ?_ _)); exact BK234.out) hb)
              have n3_ := Aside0.mk (below_step (by repeat (first | (with_reducible first | exact HB.out | apply below_alloc | apply pw_below_drewN | apply below_drew1 | refine below_set ?_ GE232.out | refine below_set ?_ GE233.out | refine below_set ?_ GE234.out) | exact HB.out)) hb)
              have n4_ := Aside0.mk (hbox)
              have n5_ := Aside0.mk ((by rw [hg]; exact (below_size (by repeat (first | (with_reducible first | exact HB.out | apply below_alloc | apply pw_below_drewN | apply below_drew1 | refine below_set ?_ GE232.out | refine below_set ?_ GE233.out | refine below_set ?_ GE234.out) | exact HB.out))) : w.heap.size ≤ gb247))
              have n6_ := Aside0.mk ((by rw [hg]; exact (below_size (by repeat (first | (with_reducible first | exact HB.out | apply below_alloc | apply pw_below_drewN | apply below_drew1 | refine below_set ?_ GE232.out | refine below_set ?_ GE233.out | refine below_set ?_ GE234.out) | exact HB.out))) : w.heap.size ≤ gb247))
              have n7_ := Aside0.mk ((by rw [hg]; exact Nat.ne_of_lt (blk_lt (g := gb232) (o := .cells #[.bool a1_0, .int .i64 a1_1, .int .i64 a1_2] 27 (0, 0)) (by (with_reducible repeat (first | refine blk_drewN ?_ _ | refine blk_drew ?_ | refine blk_alloc ?_ _)); exact BK232.out)) : gb232 ≠ gb247))
              have n8_ := Aside0.mk ((by rw [hg]; exact Nat.ne_of_gt (blk_lt (g := gb232) (o := .cells #[.bool a1_0, .int .i64 a1_1, .int .i64 a1_2] 27 (0, 0)) (by (with_reducible repeat (first | refine blk_drewN ?_ _ | refine blk_drew ?_ | refine blk_alloc ?_ _)); exact BK232.out)) : gb247 ≠ gb232))
              have n9_ := Aside0.mk ((by rw [hg]; exact Nat.ne_of_lt (blk_lt (g := gb233) (o := .cells #[.bool a2_0, .int .i64 a2_1, .int .i64 a2_2] 27 (0, 0)) (by (with_reducible repeat (first | refine blk_drewN ?_ _ | refine blk_drew ?_ | refine blk_alloc ?_ _)); exact BK233.out)) : gb233 ≠ gb247))
              have n10_ := Aside0.mk ((by rw [hg]; exact Nat.ne_of_gt (blk_lt (g := gb233) (o := .cells #[.bool a2_0, .int .i64 a2_1, .int .i64 a2_2] 27 (0, 0)) (by (with_reducible repeat (first | refine blk_drewN ?_ _ | refine blk_drew ?_ | refine blk_alloc ?_ _)); exact BK233.out)) : gb247 ≠ gb233))
              have n11_ := Aside0.mk ((by rw [hg]; exact Nat.ne_of_lt (blk_lt (g := gb234) (o := .cells #[.bool a3_0, .int .i64 a3_1, .int .i64 a3_2] 27 (0, 0)) (by (with_reducible repeat (first | refine blk_drewN ?_ _ | refine blk_drew ?_ | refine blk_alloc ?_ _)); exact BK234.out)) : gb234 ≠ gb247))
              have n12_ := Aside0.mk ((by rw [hg]; exact Nat.ne_of_gt (blk_lt (g := gb234) (o := .cells #[.bool a3_0, .int .i64 a3_1, .int .i64 a3_2] 27 (0, 0)) (by (with_reducible repeat (first | refine blk_drewN ?_ _ | refine blk_drew ?_ | refine blk_alloc ?_ _)); exact BK234.out)) : gb247 ≠ gb234))
              clear BK232
              clear BK233
              clear BK234
              clear HB
              have BK232 := n0_
              have BK233 := n1_
              have BK234 := n2_
              have HB := n3_
              have BK247 := n4_
              have GW247 := n5_
              have GE247 := n6_
              have NB232_247 := n7_
              have NB247_232 := n8_
              have NB233_247 := n9_
              have NB247_233 := n10_
              have NB234_247 := n11_
              have NB247_234 := n12_
              clear n0_ n1_ n2_ n3_ n4_ n5_ n6_ n7_ n8_ n9_ n10_ n11_ n12_
              clear hb hbox hg
              refine hK.out _ _ ⟨(blk_cell BK232.out 0).trans rfl, (blk_cell BK232.out 1).trans rfl, (blk_cell BK232.out 2).trans rfl, (blk_cell BK233.out 0).trans rfl, (blk_cell BK233.out 1).trans rfl, (blk_cell BK233.out 2).trans rfl, (blk_cell BK234.out 0).trans rfl, (blk_cell BK234.out 1).trans rfl, (blk_cell BK234.out 2).trans rfl⟩ (fun hHeld => ?_)
              clear hK K
              refine norm_ (a' := ?_) ?_ ?_
              rotate_left
              · show Act.put _ (some 9) _ = _
                simp only [Act.put, List.setIfInBounds_toArray, List.set_cons_zero, List.set_cons_succ, i64_w, i32_w]
                rfl
              exact norm_ (by first | (simp only [putAll, Act.put, List.setIfInBounds_toArray, List.set_cons_zero, List.set_cons_succ]; done) | (simp only [putAll, Act.put, List.setIfInBounds_toArray, List.set_cons_zero, List.set_cons_succ]; rfl)) (hJ2_4_6_8 (gb247) _ ⟨hHeld, (by (with_reducible repeat (first | refine blk_drewN ?_ _ | refine blk_drew ?_ | refine blk_alloc ?_ _)); exact BK232.out), (by (with_reducible repeat (first | refine blk_drewN ?_ _ | refine blk_drew ?_ | refine blk_alloc ?_ _)); exact BK233.out), (by (with_reducible repeat (first | refine blk_drewN ?_ _ | refine blk_drew ?_ | refine blk_alloc ?_ _)); exact BK234.out), (by (with_reducible repeat (first | refine blk_drewN ?_ _ | refine blk_drew ?_ | refine blk_alloc ?_ _)); exact BK247.out), GW247.out, GE247.out, NB232_247.out, NB247_232.out, NB233_247.out, NB247_233.out, NB234_247.out, NB247_234.out, (by repeat (first | (with_reducible first | exact HB.out | apply below_alloc | apply pw_below_drewN | apply below_drew1 | refine below_set ?_ GE232.out | refine below_set ?_ GE233.out | refine below_set ?_ GE234.out | refine below_set ?_ GE247.out) | exact HB.out))⟩)
        · skip
          rintro gb247 w23 ⟨hS_, h0_, h1_, h2_, h3_, h4_, h5_, h6_, h7_, h8_, h9_, h10_, h11_, h12_⟩
          have n0_ : Aside0 (w23.heap[gb232]? = some (.cells #[.bool a1_0, .int .i64 a1_1, .int .i64 a1_2] 27 (0, 0))) := ⟨h0_⟩
          have n1_ : Aside0 (w23.heap[gb233]? = some (.cells #[.bool a2_0, .int .i64 a2_1, .int .i64 a2_2] 27 (0, 0))) := ⟨h1_⟩
          have n2_ : Aside0 (w23.heap[gb234]? = some (.cells #[.bool a3_0, .int .i64 a3_1, .int .i64 a3_2] 27 (0, 0))) := ⟨h2_⟩
          have n3_ : Aside0 (w23.heap[gb247]? = some (.cells #[.bool false, .int .i64 0, .int .i64 0] 23 (0, 0))) := ⟨h3_⟩
          have n4_ : Aside0 (w.heap.size ≤ gb247) := ⟨h4_⟩
          have n5_ : Aside0 (w.heap.size ≤ gb247) := ⟨h5_⟩
          have n6_ : Aside0 (gb232 ≠ gb247) := ⟨h6_⟩
          have n7_ : Aside0 (gb247 ≠ gb232) := ⟨h7_⟩
          have n8_ : Aside0 (gb233 ≠ gb247) := ⟨h8_⟩
          have n9_ : Aside0 (gb247 ≠ gb233) := ⟨h9_⟩
          have n10_ : Aside0 (gb234 ≠ gb247) := ⟨h10_⟩
          have n11_ : Aside0 (gb247 ≠ gb234) := ⟨h11_⟩
          have n12_ : Aside0 (Below w.heap.size w w23) := ⟨h12_⟩
          clear BK232
          clear BK233
          clear BK234
          clear HB
          clear h0_ h1_ h2_ h3_ h4_ h5_ h6_ h7_ h8_ h9_ h10_ h11_ h12_
          have BK232 := n0_
          have BK233 := n1_
          have BK234 := n2_
          have BK247 := n3_
          have GW247 := n4_
          have GE247 := n5_
          have NB232_247 := n6_
          have NB247_232 := n7_
          have NB233_247 := n8_
          have NB247_233 := n9_
          have NB234_247 := n10_
          have NB247_234 := n11_
          have HB := n12_
          clear n0_ n1_ n2_ n3_ n4_ n5_ n6_ n7_ n8_ n9_ n10_ n11_ n12_
          have hHeld : w23.cell? ⟨gb232, 0, none⟩ = some (.bool a1_0) ∧ w23.cell? ⟨gb232, 1, none⟩ = some (.int .i64 a1_1) ∧ w23.cell? ⟨gb232, 2, none⟩ = some (.int .i64 a1_2) ∧ w23.cell? ⟨gb233, 0, none⟩ = some (.bool a2_0) ∧ w23.cell? ⟨gb233, 1, none⟩ = some (.int .i64 a2_1) ∧ w23.cell? ⟨gb233, 2, none⟩ = some (.int .i64 a2_2) ∧ w23.cell? ⟨gb234, 0, none⟩ = some (.bool a3_0) ∧ w23.cell? ⟨gb234, 1, none⟩ = some (.int .i64 a3_1) ∧ w23.cell? ⟨gb234, 2, none⟩ = some (.int .i64 a3_2) := hS_
          refine norm_ (a' := ?_) ?_ ?_
          rotate_left
          · simp only [putAll, Act.put, List.setIfInBounds_toArray, List.set_cons_zero, List.set_cons_succ]
            rfl
          refine one_ (i := 7) (N := some 18) #[true, true, true, true, true, true, true, true, true, false] rfl rfl (one_of HT_.out (by kernel_rfl)) (by decide) (fun K hK => ?_)
          refine goes_ Try.func33 (by kernel_rfl) rfl #[.int .i64 a0, .agg #[.bool t235, .int .i64 t236, .int .i64 t237], .agg #[.bool t238, .int .i64 t239, .int .i64 t240], .agg #[.bool t241, .int .i64 t242, .int .i64 t243]] (by rfl) rfl rfl (by (try simp only [List.map_toArray, List.map_cons, List.map_nil]); first | done | rfl | (simp only [List.length_drop, List.length_take]; rfl)) ?_
          with_reducible refine (spec_BackMin.calls k a0 t235 t236 t237 t238 t239 t240 t241 t242 t243 t244 t245 t246 _ A8.out).mono ?_
          rintro e w24 ⟨rfl, hb⟩
          refine ⟨_, rfl, ?_⟩
          have n0_ := Aside0.mk (blk_below (g := gb232) (o := .cells #[.bool a1_0, .int .i64 a1_1, .int .i64 a1_2] 27 (0, 0)) (by (with_reducible repeat (first | refine blk_drewN ?_ _ | refine blk_drew ?_ | refine blk_alloc ?_ _)); exact BK232.out) hb)
          have n1_ := Aside0.mk (blk_below (g := gb233) (o := .cells #[.bool a2_0, .int .i64 a2_1, .int .i64 a2_2] 27 (0, 0)) (by (with_reducible repeat (first | refine blk_drewN ?_ _ | refine blk_drew ?_ | refine blk_alloc ?_ _)); exact BK233.out) hb)
          have n2_ := Aside0.mk (blk_below (g := gb234) (o := .cells #[.bool a3_0, .int .i64 a3_1, .int .i64 a3_2] 27 (0, 0)) (by (with_reducible repeat (first | refine blk_drewN ?_ _ | refine blk_drew ?_ | refine blk_alloc ?_ _)); exact BK234.out) hb)
          have n3_ := Aside0.mk (blk_below (g := gb247) (o := .cells #[.bool false, .int .i64 0, .int .i64 0] 23 (0, 0)) (by (with_reducible repeat (first | refine blk_drewN ?_ _ | refine blk_drew ?_ | refine blk_alloc ?_ _)); exact BK247.out) hb)
          have n4_ := Aside0.mk (below_step (by repeat (first | (with_reducible first | exact HB.out | apply below_alloc | apply pw_below_drewN | apply below_drew1 | refine below_set ?_ GE232.out | refine below_set ?_ GE233.out | refine below_set ?_ GE234.out | refine below_set ?_ GE247.out) | exact HB.out)) hb)
          clear BK232
          clear BK233
          clear BK234
          clear BK247
          clear HB
          have BK232 := n0_
          have BK233 := n1_
          have BK234 := n2_
          have BK247 := n3_
          have HB := n4_
          clear n0_ n1_ n2_ n3_ n4_
          (try clear hb)
          (try clear hb2)
          (try clear hk)
          (try clear hi)
          refine hK.out _ _ ⟨(blk_cell BK232.out 0).trans rfl, (blk_cell BK232.out 1).trans rfl, (blk_cell BK232.out 2).trans rfl, (blk_cell BK233.out 0).trans rfl, (blk_cell BK233.out 1).trans rfl, (blk_cell BK233.out 2).trans rfl, (blk_cell BK234.out 0).trans rfl, (blk_cell BK234.out 1).trans rfl, (blk_cell BK234.out 2).trans rfl⟩ (fun hHeld => ?_)
          clear hK K
          refine norm_ (a' := ?_) ?_ ?_
          rotate_left
          · show Act.put _ (some 18) _ = _
            simp only [Act.put, List.setIfInBounds_toArray, List.set_cons_zero, List.set_cons_succ, i64_w, i32_w]
            rfl
          exact norm_ (by first | (simp only [putAll, Act.put, List.setIfInBounds_toArray, List.set_cons_zero, List.set_cons_succ]; done) | (simp only [putAll, Act.put, List.setIfInBounds_toArray, List.set_cons_zero, List.set_cons_succ]; rfl)) (hJ2_4_6_7_8 (gb247) _ ⟨hHeld, (by (with_reducible repeat (first | refine blk_drewN ?_ _ | refine blk_drew ?_ | refine blk_alloc ?_ _)); exact BK232.out), (by (with_reducible repeat (first | refine blk_drewN ?_ _ | refine blk_drew ?_ | refine blk_alloc ?_ _)); exact BK233.out), (by (with_reducible repeat (first | refine blk_drewN ?_ _ | refine blk_drew ?_ | refine blk_alloc ?_ _)); exact BK234.out), (by (with_reducible repeat (first | refine blk_drewN ?_ _ | refine blk_drew ?_ | refine blk_alloc ?_ _)); exact BK247.out), GW247.out, GE247.out, NB232_247.out, NB247_232.out, NB233_247.out, NB247_233.out, NB234_247.out, NB247_234.out, (by repeat (first | (with_reducible first | exact HB.out | apply below_alloc | apply pw_below_drewN | apply below_drew1 | refine below_set ?_ GE232.out | refine below_set ?_ GE233.out | refine below_set ?_ GE234.out | refine below_set ?_ GE247.out) | exact HB.out))⟩)
      · skip
        rintro _ w23 ⟨hS_, h0_, h1_, h2_, h3_⟩
        have n0_ : Aside0 (w23.heap[gb232]? = some (.cells #[.bool a1_0, .int .i64 a1_1, .int .i64 a1_2] 27 (0, 0))) := ⟨h0_⟩
        have n1_ : Aside0 (w23.heap[gb233]? = some (.cells #[.bool a2_0, .int .i64 a2_1, .int .i64 a2_2] 27 (0, 0))) := ⟨h1_⟩
        have n2_ : Aside0 (w23.heap[gb234]? = some (.cells #[.bool a3_0, .int .i64 a3_1, .int .i64 a3_2] 27 (0, 0))) := ⟨h2_⟩
        have n3_ : Aside0 (Below w.heap.size w w23) := ⟨h3_⟩
        clear BK232
        clear BK233
        clear BK234
        clear HB
        clear h0_ h1_ h2_ h3_
        have BK232 := n0_
        have BK233 := n1_
        have BK234 := n2_
        have HB := n3_
        clear n0_ n1_ n2_ n3_
        have hHeld : w23.cell? ⟨gb232, 0, none⟩ = some (.bool a1_0) ∧ w23.cell? ⟨gb232, 1, none⟩ = some (.int .i64 a1_1) ∧ w23.cell? ⟨gb232, 2, none⟩ = some (.int .i64 a1_2) ∧ w23.cell? ⟨gb233, 0, none⟩ = some (.bool a2_0) ∧ w23.cell? ⟨gb233, 1, none⟩ = some (.int .i64 a2_1) ∧ w23.cell? ⟨gb233, 2, none⟩ = some (.int .i64 a2_2) ∧ w23.cell? ⟨gb234, 0, none⟩ = some (.bool a3_0) ∧ w23.cell? ⟨gb234, 1, none⟩ = some (.int .i64 a3_1) ∧ w23.cell? ⟨gb234, 2, none⟩ = some (.int .i64 a3_2) := hS_
        refine norm_ (a' := ?_) ?_ ?_
        rotate_left
        · simp only [putAll, Act.put, List.setIfInBounds_toArray, List.set_cons_zero, List.set_cons_succ]
          rfl
        refine one_ (i := 8) (N := some 9) #[true, true, true, true, true, true, true, true, true, false] rfl rfl (one_of HT_.out (by kernel_rfl)) (by decide) (fun K hK => ?_)
        refine box_step ?hg (N := 9) ?hd (cs := #[.bool false, .int .i64 0, .int .i64 0]) (t := 23) ?hr ?_; (case hd => rfl); (case hg => rfl); (case hr => first | (go_simp; done) | (go_simp; rfl))
        intro gb247 hg w24 hbox hb
        have n0_ := Aside0.mk (blk_below (g := gb232) (o := .cells #[.bool a1_0, .int .i64 a1_1, .int .i64 a1_2] 27 (0, 0)) (by (with_reducible repeat (first | refine blk_drewN ?_ _ | refine blk_drew ?_ | refine blk_alloc ?_ _)); exact BK232.out) hb)
        have n1_ := Aside0.mk (blk_below (g := gb233) (o := .cells #[.bool a2_0, .int .i64 a2_1, .int .i64 a2_2] 27 (0, 0)) (by (with_reducible repeat (first | refine blk_drewN ?_ _ | refine blk_drew ?_ | refine blk_alloc ?_ _)); exact BK233.out) hb)
        have n2_ := Aside0.mk (blk_below (g := gb234) (o := .cells #[.bool a3_0, .int .i64 a3_1, .int .i64 a3_2] 27 (0, 0)) (by (with_reducible repeat (first | refine blk_drewN ?_ _ | refine blk_drew ?_ | refine blk_alloc ?_ _)); exact BK234.out) hb)
        have n3_ := Aside0.mk (below_step (by repeat (first | (with_reducible first | exact HB.out | apply below_alloc | apply pw_below_drewN | apply below_drew1 | refine below_set ?_ GE232.out | refine below_set ?_ GE233.out | refine below_set ?_ GE234.out) | exact HB.out)) hb)
        have n4_ := Aside0.mk (hbox)
        have n5_ := Aside0.mk ((by rw [hg]; exact (below_size (by repeat (first | (with_reducible first | exact HB.out | apply below_alloc | apply pw_below_drewN | apply below_drew1 | refine below_set ?_ GE232.out | refine below_set ?_ GE233.out | refine below_set ?_ GE234.out) | exact HB.out))) : w.heap.size ≤ gb247))
        have n6_ := Aside0.mk ((by rw [hg]; exact (below_size (by repeat (first | (with_reducible first | exact HB.out | apply below_alloc | apply pw_below_drewN | apply below_drew1 | refine below_set ?_ GE232.out | refine below_set ?_ GE233.out | refine below_set ?_ GE234.out) | exact HB.out))) : w.heap.size ≤ gb247))
        have n7_ := Aside0.mk ((by rw [hg]; exact Nat.ne_of_lt (blk_lt (g := gb232) (o := .cells #[.bool a1_0, .int .i64 a1_1, .int .i64 a1_2] 27 (0, 0)) (by (with_reducible repeat (first | refine blk_drewN ?_ _ | refine blk_drew ?_ | refine blk_alloc ?_ _)); exact BK232.out)) : gb232 ≠ gb247))
        have n8_ := Aside0.mk ((by rw [hg]; exact Nat.ne_of_gt (blk_lt (g := gb232) (o := .cells #[.bool a1_0, .int .i64 a1_1, .int .i64 a1_2] 27 (0, 0)) (by (with_reducible repeat (first | refine blk_drewN ?_ _ | refine blk_drew ?_ | refine blk_alloc ?_ _)); exact BK232.out)) : gb247 ≠ gb232))
        have n9_ := Aside0.mk ((by rw [hg]; exact Nat.ne_of_lt (blk_lt (g := gb233) (o := .cells #[.bool a2_0, .int .i64 a2_1, .int .i64 a2_2] 27 (0, 0)) (by (with_reducible repeat (first | refine blk_drewN ?_ _ | refine blk_drew ?_ | refine blk_alloc ?_ _)); exact BK233.out)) : gb233 ≠ gb247))
        have n10_ := Aside0.mk ((by rw [hg]; exact Nat.ne_of_gt (blk_lt (g := gb233) (o := .cells #[.bool a2_0, .int .i64 a2_1, .int .i64 a2_2] 27 (0, 0)) (by (with_reducible repeat (first | refine blk_drewN ?_ _ | refine blk_drew ?_ | refine blk_alloc ?_ _)); exact BK233.out)) : gb247 ≠ gb233))
        have n11_ := Aside0.mk ((by rw [hg]; exact Nat.ne_of_lt (blk_lt (g := gb234) (o := .cells #[.bool a3_0, .int .i64 a3_1, .int .i64 a3_2] 27 (0, 0)) (by (with_reducible repeat (first | refine blk_drewN ?_ _ | refine blk_drew ?_ | refine blk_alloc ?_ _)); exact BK234.out)) : gb234 ≠ gb247))
        have n12_ := Aside0.mk ((by rw [hg]; exact Nat.ne_of_gt (blk_lt (g := gb234) (o := .cells #[.bool a3_0, .int .i64 a3_1, .int .i64 a3_2] 27 (0, 0)) (by (with_reducible repeat (first | refine blk_drewN ?_ _ | refine blk_drew ?_ | refine blk_alloc ?_ _)); exact BK234.out)) : gb247 ≠ gb234))
        clear BK232
        clear BK233
        clear BK234
        clear HB
        have BK232 := n0_
        have BK233 := n1_
        have BK234 := n2_
        have HB := n3_
        have BK247 := n4_
        have GW247 := n5_
        have GE247 := n6_
        have NB232_247 := n7_
        have NB247_232 := n8_
        have NB233_247 := n9_
        have NB247_233 := n10_
        have NB234_247 := n11_
        have NB247_234 := n12_
        clear n0_ n1_ n2_ n3_ n4_ n5_ n6_ n7_ n8_ n9_ n10_ n11_ n12_
        clear hb hbox hg
        refine hK.out _ _ ⟨(blk_cell BK232.out 0).trans rfl, (blk_cell BK232.out 1).trans rfl, (blk_cell BK232.out 2).trans rfl, (blk_cell BK233.out 0).trans rfl, (blk_cell BK233.out 1).trans rfl, (blk_cell BK233.out 2).trans rfl, (blk_cell BK234.out 0).trans rfl, (blk_cell BK234.out 1).trans rfl, (blk_cell BK234.out 2).trans rfl⟩ (fun hHeld => ?_)
        clear hK K
        refine norm_ (a' := ?_) ?_ ?_
        rotate_left
        · show Act.put _ (some 9) _ = _
          simp only [Act.put, List.setIfInBounds_toArray, List.set_cons_zero, List.set_cons_succ, i64_w, i32_w]
          rfl
        exact norm_ (by first | (simp only [putAll, Act.put, List.setIfInBounds_toArray, List.set_cons_zero, List.set_cons_succ]; done) | (simp only [putAll, Act.put, List.setIfInBounds_toArray, List.set_cons_zero, List.set_cons_succ]; rfl)) (hJ2_4_6_7_8 (gb247) _ ⟨hHeld, (by (with_reducible repeat (first | refine blk_drewN ?_ _ | refine blk_drew ?_ | refine blk_alloc ?_ _)); exact BK232.out), (by (with_reducible repeat (first | refine blk_drewN ?_ _ | refine blk_drew ?_ | refine blk_alloc ?_ _)); exact BK233.out), (by (with_reducible repeat (first | refine blk_drewN ?_ _ | refine blk_drew ?_ | refine blk_alloc ?_ _)); exact BK234.out), (by (with_reducible repeat (first | refine blk_drewN ?_ _ | refine blk_drew ?_ | refine blk_alloc ?_ _)); exact BK247.out), GW247.out, GE247.out, NB232_247.out, NB247_232.out, NB233_247.out, NB247_233.out, NB234_247.out, NB247_234.out, (by repeat (first | (with_reducible first | exact HB.out | apply below_alloc | apply pw_below_drewN | apply below_drew1 | refine below_set ?_ GE232.out | refine below_set ?_ GE233.out | refine below_set ?_ GE234.out | refine below_set ?_ GE247.out) | exact HB.out))⟩)
    rintro gb247 w24 ⟨hS_, h0_, h1_, h2_, h3_, h4_, h5_, h6_, h7_, h8_, h9_, h10_, h11_, h12_⟩
    have n0_ : Aside0 (w24.heap[gb232]? = some (.cells #[.bool a1_0, .int .i64 a1_1, .int .i64 a1_2] 27 (0, 0))) := ⟨h0_⟩
    have n1_ : Aside0 (w24.heap[gb233]? = some (.cells #[.bool a2_0, .int .i64 a2_1, .int .i64 a2_2] 27 (0, 0))) := ⟨h1_⟩
    have n2_ : Aside0 (w24.heap[gb234]? = some (.cells #[.bool a3_0, .int .i64 a3_1, .int .i64 a3_2] 27 (0, 0))) := ⟨h2_⟩
    have n3_ : Aside0 (w24.heap[gb247]? = some (.cells #[.bool false, .int .i64 0, .int .i64 0] 23 (0, 0))) := ⟨h3_⟩
    have n4_ : Aside0 (w.heap.size ≤ gb247) := ⟨h4_⟩
    have n5_ : Aside0 (w.heap.size ≤ gb247) := ⟨h5_⟩
    have n6_ : Aside0 (gb232 ≠ gb247) := ⟨h6_⟩
    have n7_ : Aside0 (gb247 ≠ gb232) := ⟨h7_⟩
    have n8_ : Aside0 (gb233 ≠ gb247) := ⟨h8_⟩
    have n9_ : Aside0 (gb247 ≠ gb233) := ⟨h9_⟩
    have n10_ : Aside0 (gb234 ≠ gb247) := ⟨h10_⟩
    have n11_ : Aside0 (gb247 ≠ gb234) := ⟨h11_⟩
    have n12_ : Aside0 (Below w.heap.size w w24) := ⟨h12_⟩
    clear BK232
    clear BK233
    clear BK234
    clear HB
    clear h0_ h1_ h2_ h3_ h4_ h5_ h6_ h7_ h8_ h9_ h10_ h11_ h12_
    have BK232 := n0_
    have BK233 := n1_
    have BK234 := n2_
    have BK247 := n3_
    have GW247 := n4_
    have GE247 := n5_
    have NB232_247 := n6_
    have NB247_232 := n7_
    have NB233_247 := n8_
    have NB247_233 := n9_
    have NB234_247 := n10_
    have NB247_234 := n11_
    have HB := n12_
    clear n0_ n1_ n2_ n3_ n4_ n5_ n6_ n7_ n8_ n9_ n10_ n11_ n12_
    have hHeld : w24.cell? ⟨gb232, 0, none⟩ = some (.bool a1_0) ∧ w24.cell? ⟨gb232, 1, none⟩ = some (.int .i64 a1_1) ∧ w24.cell? ⟨gb232, 2, none⟩ = some (.int .i64 a1_2) ∧ w24.cell? ⟨gb233, 0, none⟩ = some (.bool a2_0) ∧ w24.cell? ⟨gb233, 1, none⟩ = some (.int .i64 a2_1) ∧ w24.cell? ⟨gb233, 2, none⟩ = some (.int .i64 a2_2) ∧ w24.cell? ⟨gb234, 0, none⟩ = some (.bool a3_0) ∧ w24.cell? ⟨gb234, 1, none⟩ = some (.int .i64 a3_1) ∧ w24.cell? ⟨gb234, 2, none⟩ = some (.int .i64 a3_2) := hS_
    refine norm_ (a' := ?_) ?_ ?_
    rotate_left
    · simp only [putAll, Act.put, List.setIfInBounds_toArray, List.set_cons_zero, List.set_cons_succ]
      rfl
    refine one_ (i := 9) (N := none) #[true, true, true, true, true, true, true, true, true, true] rfl rfl (one_of HT_.out (by kernel_rfl)) (by decide) (fun K hK => ?_)
    have hs25 : w24.cell? ⟨gb247, 0, none⟩ = some (.bool false) := (blk_cell BK247.out 0).trans rfl
    have hfs25 := blk_frozen BK247.out 0
    have hns25_0 := NB232_247.out
    have hns25_1 := NB233_247.out
    have hns25_2 := NB234_247.out
    have hms25_0 := NB247_232.out
    have hms25_1 := NB247_233.out
    have hms25_2 := NB247_234.out
    have hs26 : w24.cell? ⟨gb247, 1, none⟩ = some (.int .i64 0) := (blk_cell BK247.out 1).trans rfl
    have hfs26 := blk_frozen BK247.out 1
    have hns26_0 := NB232_247.out
    have hns26_1 := NB233_247.out
    have hns26_2 := NB234_247.out
    have hms26_0 := NB247_232.out
    have hms26_1 := NB247_233.out
    have hms26_2 := NB247_234.out
    have hs27 : w24.cell? ⟨gb247, 2, none⟩ = some (.int .i64 0) := (blk_cell BK247.out 2).trans rfl
    have hfs27 := blk_frozen BK247.out 2
    have hns27_0 := NB232_247.out
    have hns27_1 := NB233_247.out
    have hns27_2 := NB234_247.out
    have hms27_0 := NB247_232.out
    have hms27_1 := NB247_233.out
    have hms27_2 := NB247_234.out
    refine skip_ (w1 := ?_) (by rfl) rfl ?_ ?_
    rotate_left
    · go_simp
      rfl
    refine hK.out _ _ ⟨((cell_far (p := ⟨gb247, _, none⟩) NB232_247.out _).trans (((cell_far (p := ⟨gb247, _, none⟩) NB232_247.out _).trans (((cell_far (p := ⟨gb247, _, none⟩) NB232_247.out _).trans (hHeld.1)))))), ((cell_far (p := ⟨gb247, _, none⟩) NB232_247.out _).trans (((cell_far (p := ⟨gb247, _, none⟩) NB232_247.out _).trans (((cell_far (p := ⟨gb247, _, none⟩) NB232_247.out _).trans (hHeld.2.1)))))), ((cell_far (p := ⟨gb247, _, none⟩) NB232_247.out _).trans (((cell_far (p := ⟨gb247, _, none⟩) NB232_247.out _).trans (((cell_far (p := ⟨gb247, _, none⟩) NB232_247.out _).trans (hHeld.2.2.1)))))), ((cell_far (p := ⟨gb247, _, none⟩) NB233_247.out _).trans (((cell_far (p := ⟨gb247, _, none⟩) NB233_247.out _).trans (((cell_far (p := ⟨gb247, _, none⟩) NB233_247.out _).trans (hHeld.2.2.2.1)))))), ((cell_far (p := ⟨gb247, _, none⟩) NB233_247.out _).trans (((cell_far (p := ⟨gb247, _, none⟩) NB233_247.out _).trans (((cell_far (p := ⟨gb247, _, none⟩) NB233_247.out _).trans (hHeld.2.2.2.2.1)))))), ((cell_far (p := ⟨gb247, _, none⟩) NB233_247.out _).trans (((cell_far (p := ⟨gb247, _, none⟩) NB233_247.out _).trans (((cell_far (p := ⟨gb247, _, none⟩) NB233_247.out _).trans (hHeld.2.2.2.2.2.1)))))), ((cell_far (p := ⟨gb247, _, none⟩) NB234_247.out _).trans (((cell_far (p := ⟨gb247, _, none⟩) NB234_247.out _).trans (((cell_far (p := ⟨gb247, _, none⟩) NB234_247.out _).trans (hHeld.2.2.2.2.2.2.1)))))), ((cell_far (p := ⟨gb247, _, none⟩) NB234_247.out _).trans (((cell_far (p := ⟨gb247, _, none⟩) NB234_247.out _).trans (((cell_far (p := ⟨gb247, _, none⟩) NB234_247.out _).trans (hHeld.2.2.2.2.2.2.2.1)))))), ((cell_far (p := ⟨gb247, _, none⟩) NB234_247.out _).trans (((cell_far (p := ⟨gb247, _, none⟩) NB234_247.out _).trans (((cell_far (p := ⟨gb247, _, none⟩) NB234_247.out _).trans (hHeld.2.2.2.2.2.2.2.2))))))⟩ (fun hHeld => ?_)
    clear hK K
    refine done_ (done_of HT_.out (by kernel_rfl)) ?_
    try go_wp2
    have n0_ : Aside0 ((((w24.setCell ⟨gb247, 0, none⟩ (.bool t244)).setCell ⟨gb247, 1, none⟩ (.int .i64 t245)).setCell ⟨gb247, 2, none⟩ (.int .i64 t246)).heap[gb232]? = some (.cells #[.bool a1_0, .int .i64 a1_1, .int .i64 a1_2] 27 (0, 0))) := ⟨by (with_reducible repeat (first | refine blk_drewN ?_ _ | refine blk_drew ?_ | refine blk_alloc ?_ _)); refine blk_far ?_ NB232_247.out _; (with_reducible repeat (first | refine blk_drewN ?_ _ | refine blk_drew ?_ | refine blk_alloc ?_ _)); refine blk_far ?_ NB232_247.out _; (with_reducible repeat (first | refine blk_drewN ?_ _ | refine blk_drew ?_ | refine blk_alloc ?_ _)); refine blk_far ?_ NB232_247.out _; (with_reducible repeat (first | refine blk_drewN ?_ _ | refine blk_drew ?_ | refine blk_alloc ?_ _)); exact BK232.out⟩
    have n1_ : Aside0 ((((w24.setCell ⟨gb247, 0, none⟩ (.bool t244)).setCell ⟨gb247, 1, none⟩ (.int .i64 t245)).setCell ⟨gb247, 2, none⟩ (.int .i64 t246)).heap[gb233]? = some (.cells #[.bool a2_0, .int .i64 a2_1, .int .i64 a2_2] 27 (0, 0))) := ⟨by (with_reducible repeat (first | refine blk_drewN ?_ _ | refine blk_drew ?_ | refine blk_alloc ?_ _)); refine blk_far ?_ NB233_247.out _; (with_reducible repeat (first | refine blk_drewN ?_ _ | refine blk_drew ?_ | refine blk_alloc ?_ _)); refine blk_far ?_ NB233_247.out _; (with_reducible repeat (first | refine blk_drewN ?_ _ | refine blk_drew ?_ | refine blk_alloc ?_ _)); refine blk_far ?_ NB233_247.out _; (with_reducible repeat (first | refine blk_drewN ?_ _ | refine blk_drew ?_ | refine blk_alloc ?_ _)); exact BK233.out⟩
    have n2_ : Aside0 ((((w24.setCell ⟨gb247, 0, none⟩ (.bool t244)).setCell ⟨gb247, 1, none⟩ (.int .i64 t245)).setCell ⟨gb247, 2, none⟩ (.int .i64 t246)).heap[gb234]? = some (.cells #[.bool a3_0, .int .i64 a3_1, .int .i64 a3_2] 27 (0, 0))) := ⟨by (with_reducible repeat (first | refine blk_drewN ?_ _ | refine blk_drew ?_ | refine blk_alloc ?_ _)); refine blk_far ?_ NB234_247.out _; (with_reducible repeat (first | refine blk_drewN ?_ _ | refine blk_drew ?_ | refine blk_alloc ?_ _)); refine blk_far ?_ NB234_247.out _; (with_reducible repeat (first | refine blk_drewN ?_ _ | refine blk_drew ?_ | refine blk_alloc ?_ _)); refine blk_far ?_ NB234_247.out _; (with_reducible repeat (first | refine blk_drewN ?_ _ | refine blk_drew ?_ | refine blk_alloc ?_ _)); exact BK234.out⟩
    have n3_ : Aside0 ((((w24.setCell ⟨gb247, 0, none⟩ (.bool t244)).setCell ⟨gb247, 1, none⟩ (.int .i64 t245)).setCell ⟨gb247, 2, none⟩ (.int .i64 t246)).heap[gb247]? = some (.cells #[.bool t244, .int .i64 t245, .int .i64 t246] 23 (0, 0))) := ⟨by (with_reducible repeat (first | refine blk_drewN ?_ _ | refine blk_drew ?_ | refine blk_alloc ?_ _)); refine blk_put (cs := #[.bool t244, .int .i64 t245, .int .i64 0]) ?_ 2 _ rfl; (with_reducible repeat (first | refine blk_drewN ?_ _ | refine blk_drew ?_ | refine blk_alloc ?_ _)); refine blk_put (cs := #[.bool t244, .int .i64 0, .int .i64 0]) ?_ 1 _ rfl; (with_reducible repeat (first | refine blk_drewN ?_ _ | refine blk_drew ?_ | refine blk_alloc ?_ _)); refine blk_put (cs := #[.bool false, .int .i64 0, .int .i64 0]) ?_ 0 _ rfl; (with_reducible repeat (first | refine blk_drewN ?_ _ | refine blk_drew ?_ | refine blk_alloc ?_ _)); exact BK247.out⟩
    have n4_ : Aside0 (Below w.heap.size w (((w24.setCell ⟨gb247, 0, none⟩ (.bool t244)).setCell ⟨gb247, 1, none⟩ (.int .i64 t245)).setCell ⟨gb247, 2, none⟩ (.int .i64 t246))) := ⟨by repeat (first | (with_reducible first | exact HB.out | apply below_alloc | apply pw_below_drewN | apply below_drew1 | refine below_set ?_ GE232.out | refine below_set ?_ GE233.out | refine below_set ?_ GE234.out | refine below_set ?_ GE247.out) | exact HB.out)⟩
    (try clear BK232)
    (try clear BK233)
    (try clear BK234)
    (try clear BK247)
    (try clear HB)
    generalize (((w24.setCell ⟨gb247, 0, none⟩ (.bool t244)).setCell ⟨gb247, 1, none⟩ (.int .i64 t245)).setCell ⟨gb247, 2, none⟩ (.int .i64 t246)) = w28 at n0_ n1_ n2_ n3_ n4_ ⊢
    have BK232 := n0_
    have BK233 := n1_
    have BK234 := n2_
    have BK247 := n3_
    have HB := n4_
    clear n0_ n1_ n2_ n3_ n4_
    have n0_ := Aside0.mk (blk_drew BK232.out)
    have n1_ := Aside0.mk (blk_drew BK233.out)
    have n2_ := Aside0.mk (blk_drew BK234.out)
    have n3_ := Aside0.mk (blk_drew BK247.out)
    have n4_ := Aside0.mk (below_drew1 HB.out)
    clear BK232
    clear BK233
    clear BK234
    clear BK247
    clear HB
    have BK232 := n0_
    have BK233 := n1_
    have BK234 := n2_
    have BK247 := n3_
    have HB := n4_
    clear n0_ n1_ n2_ n3_ n4_
    refine start_ (n := 10) (S := fun w' => w'.cell? ⟨gb232, 0, none⟩ = some (.bool a1_0) ∧ w'.cell? ⟨gb232, 1, none⟩ = some (.int .i64 a1_1) ∧ w'.cell? ⟨gb232, 2, none⟩ = some (.int .i64 a1_2) ∧ w'.cell? ⟨gb233, 0, none⟩ = some (.bool a2_0) ∧ w'.cell? ⟨gb233, 1, none⟩ = some (.int .i64 a2_1) ∧ w'.cell? ⟨gb233, 2, none⟩ = some (.int .i64 a2_2) ∧ w'.cell? ⟨gb234, 0, none⟩ = some (.bool a3_0) ∧ w'.cell? ⟨gb234, 1, none⟩ = some (.int .i64 a3_1) ∧ w'.cell? ⟨gb234, 2, none⟩ = some (.int .i64 a3_2)) (ds := []) #[false, false, false, false, false, false, false, false, false, false] (by kernel_rfl) rfl rfl ⟨(blk_cell BK232.out 0).trans rfl, (blk_cell BK232.out 1).trans rfl, (blk_cell BK232.out 2).trans rfl, (blk_cell BK233.out 0).trans rfl, (blk_cell BK233.out 1).trans rfl, (blk_cell BK233.out 2).trans rfl, (blk_cell BK234.out 0).trans rfl, (blk_cell BK234.out 1).trans rfl, (blk_cell BK234.out 2).trans rfl⟩ (fun hHeld => ?_); refine with_tabW laws_FnExactBackMin.tab2 laws_FnExactBackMin.bits2 (fun HT_ HW_ => ?_)
    generalize w28.drew = w29 at BK232 BK233 BK234 BK247 HB hHeld ⊢
    refine pure_ (i := 0) (N := some 19) (v := ?_) (a' := ?_) #[true, false, false, false, false, false, false, false, false, false] rfl rfl (any_of HT_.out (by kernel_rfl)) (fun _ _ _ h => h) (Or.inl ⟨by rfl, ?_⟩) ?_ ?_
    rotate_left
    · intro w'
      go_simp
      with_reducible rfl
    rotate_left
    · simp only [Act.put, List.setIfInBounds_toArray, List.set_cons_zero, List.set_cons_succ, i64_w, i32_w]
      rfl
    refine take_ (i := 1) (N := some 20) (v := ?_) (a' := ?_) #[true, true, false, false, false, false, false, false, false, false] rfl rfl (take_ofW HT_.out HW_.out (by kernel_rfl)) (fun _ _ _ h => h) (Or.inl ⟨by rfl, ?_⟩) hHeld ?_ ?_
    rotate_left
    · rintro w' ⟨s0, s1, s2, s3, s4, s5, s6, s7, s8⟩
      go_simp
      with_reducible rfl
    rotate_left
    · simp only [Act.put, List.setIfInBounds_toArray, List.set_cons_zero, List.set_cons_succ, i64_w, i32_w]
      rfl
    refine take_ (i := 3) (N := some 22) (v := ?_) (a' := ?_) #[true, true, false, true, false, false, false, false, false, false] rfl rfl (take_ofW HT_.out HW_.out (by kernel_rfl)) (fun _ _ _ h => h) (Or.inl ⟨by rfl, ?_⟩) hHeld ?_ ?_
    rotate_left
    · rintro w' ⟨s0, s1, s2, s3, s4, s5, s6, s7, s8⟩
      go_simp
      with_reducible rfl
    rotate_left
    · simp only [Act.put, List.setIfInBounds_toArray, List.set_cons_zero, List.set_cons_succ, i64_w, i32_w]
      rfl
    refine take_ (i := 5) (N := some 24) (v := ?_) (a' := ?_) #[true, true, false, true, false, true, false, false, false, false] rfl rfl (take_ofW HT_.out HW_.out (by kernel_rfl)) (fun _ _ _ h => h) (Or.inl ⟨by rfl, ?_⟩) hHeld ?_ ?_
    rotate_left
    · rintro w' ⟨s0, s1, s2, s3, s4, s5, s6, s7, s8⟩
      go_simp
      with_reducible rfl
    rotate_left
    · simp only [Act.put, List.setIfInBounds_toArray, List.set_cons_zero, List.set_cons_succ, i64_w, i32_w]
      rfl
    refine join_ (σ := Nat) 1 #[true, true, true, true, true, true, true, true, true, false] (fun s_ => [(21, .agg #[.bool t235, .int .i64 t236, .int .i64 t237]), (23, .agg #[.bool t238, .int .i64 t239, .int .i64 t240]), (25, .agg #[.bool t241, .int .i64 t242, .int .i64 t243]), (26, .agg #[.bool t257, .int .i64 t258, .int .i64 t259]), (10, .pointer (some ⟨s_, 0, none⟩))]) (fun s_ w' => (w'.cell? ⟨gb232, 0, none⟩ = some (.bool a1_0) ∧ w'.cell? ⟨gb232, 1, none⟩ = some (.int .i64 a1_1) ∧ w'.cell? ⟨gb232, 2, none⟩ = some (.int .i64 a1_2) ∧ w'.cell? ⟨gb233, 0, none⟩ = some (.bool a2_0) ∧ w'.cell? ⟨gb233, 1, none⟩ = some (.int .i64 a2_1) ∧ w'.cell? ⟨gb233, 2, none⟩ = some (.int .i64 a2_2) ∧ w'.cell? ⟨gb234, 0, none⟩ = some (.bool a3_0) ∧ w'.cell? ⟨gb234, 1, none⟩ = some (.int .i64 a3_1) ∧ w'.cell? ⟨gb234, 2, none⟩ = some (.int .i64 a3_2)) ∧ (w'.heap[gb232]? = some (.cells #[.bool a1_0, .int .i64 a1_1, .int .i64 a1_2] 27 (0, 0))) ∧ (w'.heap[gb233]? = some (.cells #[.bool a2_0, .int .i64 a2_1, .int .i64 a2_2] 27 (0, 0))) ∧ (w'.heap[gb234]? = some (.cells #[.bool a3_0, .int .i64 a3_1, .int .i64 a3_2] 27 (0, 0))) ∧ (w'.heap[gb247]? = some (.cells #[.bool t244, .int .i64 t245, .int .i64 t246] 23 (0, 0))) ∧ (w'.heap[s_]? = some (.cells #[.bool false, .int .i64 0, .int .i64 0] 23 (0, 0))) ∧ (w.heap.size ≤ s_) ∧ (w.heap.size ≤ s_) ∧ (gb232 ≠ s_) ∧ (s_ ≠ gb232) ∧ (gb233 ≠ s_) ∧ (s_ ≠ gb233) ∧ (gb234 ≠ s_) ∧ (s_ ≠ gb234) ∧ (gb247 ≠ s_) ∧ (s_ ≠ gb247) ∧ (Below w.heap.size w w')) ?_ ?_
    rotate_left
    · intro hJ2_4_6_7_8
      refine join_ (σ := Unit) 2 #[true, true, true, true, true, true, true, true, false, false] (fun s_ => [(21, .agg #[.bool t235, .int .i64 t236, .int .i64 t237]), (23, .agg #[.bool t238, .int .i64 t239, .int .i64 t240]), (25, .agg #[.bool t241, .int .i64 t242, .int .i64 t243]), (26, .agg #[.bool t257, .int .i64 t258, .int .i64 t259])]) (fun s_ w' => (w'.cell? ⟨gb232, 0, none⟩ = some (.bool a1_0) ∧ w'.cell? ⟨gb232, 1, none⟩ = some (.int .i64 a1_1) ∧ w'.cell? ⟨gb232, 2, none⟩ = some (.int .i64 a1_2) ∧ w'.cell? ⟨gb233, 0, none⟩ = some (.bool a2_0) ∧ w'.cell? ⟨gb233, 1, none⟩ = some (.int .i64 a2_1) ∧ w'.cell? ⟨gb233, 2, none⟩ = some (.int .i64 a2_2) ∧ w'.cell? ⟨gb234, 0, none⟩ = some (.bool a3_0) ∧ w'.cell? ⟨gb234, 1, none⟩ = some (.int .i64 a3_1) ∧ w'.cell? ⟨gb234, 2, none⟩ = some (.int .i64 a3_2)) ∧ (w'.heap[gb232]? = some (.cells #[.bool a1_0, .int .i64 a1_1, .int .i64 a1_2] 27 (0, 0))) ∧ (w'.heap[gb233]? = some (.cells #[.bool a2_0, .int .i64 a2_1, .int .i64 a2_2] 27 (0, 0))) ∧ (w'.heap[gb234]? = some (.cells #[.bool a3_0, .int .i64 a3_1, .int .i64 a3_2] 27 (0, 0))) ∧ (w'.heap[gb247]? = some (.cells #[.bool t244, .int .i64 t245, .int .i64 t246] 23 (0, 0))) ∧ (Below w.heap.size w w')) ?_ ?_
      rotate_left
      · intro hJ2_4_6_7
        refine join_ (σ := Nat) 2 #[true, true, true, true, true, true, true, false, true, false] (fun s_ => [(21, .agg #[.bool t235, .int .i64 t236, .int .i64 t237]), (23, .agg #[.bool t238, .int .i64 t239, .int .i64 t240]), (25, .agg #[.bool t241, .int .i64 t242, .int .i64 t243]), (10, .pointer (some ⟨s_, 0, none⟩))]) (fun s_ w' => (w'.cell? ⟨gb232, 0, none⟩ = some (.bool a1_0) ∧ w'.cell? ⟨gb232, 1, none⟩ = some (.int .i64 a1_1) ∧ w'.cell? ⟨gb232, 2, none⟩ = some (.int .i64 a1_2) ∧ w'.cell? ⟨gb233, 0, none⟩ = some (.bool a2_0) ∧ w'.cell? ⟨gb233, 1, none⟩ = some (.int .i64 a2_1) ∧ w'.cell? ⟨gb233, 2, none⟩ = some (.int .i64 a2_2) ∧ w'.cell? ⟨gb234, 0, none⟩ = some (.bool a3_0) ∧ w'.cell? ⟨gb234, 1, none⟩ = some (.int .i64 a3_1) ∧ w'.cell? ⟨gb234, 2, none⟩ = some (.int .i64 a3_2)) ∧ (w'.heap[gb232]? = some (.cells #[.bool a1_0, .int .i64 a1_1, .int .i64 a1_2] 27 (0, 0))) ∧ (w'.heap[gb233]? = some (.cells #[.bool a2_0, .int .i64 a2_1, .int .i64 a2_2] 27 (0, 0))) ∧ (w'.heap[gb234]? = some (.cells #[.bool a3_0, .int .i64 a3_1, .int .i64 a3_2] 27 (0, 0))) ∧ (w'.heap[gb247]? = some (.cells #[.bool t244, .int .i64 t245, .int .i64 t246] 23 (0, 0))) ∧ (w'.heap[s_]? = some (.cells #[.bool false, .int .i64 0, .int .i64 0] 23 (0, 0))) ∧ (w.heap.size ≤ s_) ∧ (w.heap.size ≤ s_) ∧ (gb232 ≠ s_) ∧ (s_ ≠ gb232) ∧ (gb233 ≠ s_) ∧ (s_ ≠ gb233) ∧ (gb234 ≠ s_) ∧ (s_ ≠ gb234) ∧ (gb247 ≠ s_) ∧ (s_ ≠ gb247) ∧ (Below w.heap.size w w')) ?_ ?_
        rotate_left
        · intro hJ2_4_6_8
          refine join_ (σ := Unit) 3 #[true, true, true, true, true, true, true, false, false, false] (fun s_ => [(21, .agg #[.bool t235, .int .i64 t236, .int .i64 t237]), (23, .agg #[.bool t238, .int .i64 t239, .int .i64 t240]), (25, .agg #[.bool t241, .int .i64 t242, .int .i64 t243])]) (fun s_ w' => (w'.cell? ⟨gb232, 0, none⟩ = some (.bool a1_0) ∧ w'.cell? ⟨gb232, 1, none⟩ = some (.int .i64 a1_1) ∧ w'.cell? ⟨gb232, 2, none⟩ = some (.int .i64 a1_2) ∧ w'.cell? ⟨gb233, 0, none⟩ = some (.bool a2_0) ∧ w'.cell? ⟨gb233, 1, none⟩ = some (.int .i64 a2_1) ∧ w'.cell? ⟨gb233, 2, none⟩ = some (.int .i64 a2_2) ∧ w'.cell? ⟨gb234, 0, none⟩ = some (.bool a3_0) ∧ w'.cell? ⟨gb234, 1, none⟩ = some (.int .i64 a3_1) ∧ w'.cell? ⟨gb234, 2, none⟩ = some (.int .i64 a3_2)) ∧ (w'.heap[gb232]? = some (.cells #[.bool a1_0, .int .i64 a1_1, .int .i64 a1_2] 27 (0, 0))) ∧ (w'.heap[gb233]? = some (.cells #[.bool a2_0, .int .i64 a2_1, .int .i64 a2_2] 27 (0, 0))) ∧ (w'.heap[gb234]? = some (.cells #[.bool a3_0, .int .i64 a3_1, .int .i64 a3_2] 27 (0, 0))) ∧ (w'.heap[gb247]? = some (.cells #[.bool t244, .int .i64 t245, .int .i64 t246] 23 (0, 0))) ∧ (Below w.heap.size w w')) ?_ ?_
          rotate_left
          · intro hJ2_4_6
            refine join_ (σ := Nat) 3 #[true, true, true, true, true, true, false, false, true, false] (fun s_ => [(21, .agg #[.bool t235, .int .i64 t236, .int .i64 t237]), (23, .agg #[.bool t238, .int .i64 t239, .int .i64 t240]), (10, .pointer (some ⟨s_, 0, none⟩))]) (fun s_ w' => (w'.cell? ⟨gb232, 0, none⟩ = some (.bool a1_0) ∧ w'.cell? ⟨gb232, 1, none⟩ = some (.int .i64 a1_1) ∧ w'.cell? ⟨gb232, 2, none⟩ = some (.int .i64 a1_2) ∧ w'.cell? ⟨gb233, 0, none⟩ = some (.bool a2_0) ∧ w'.cell? ⟨gb233, 1, none⟩ = some (.int .i64 a2_1) ∧ w'.cell? ⟨gb233, 2, none⟩ = some (.int .i64 a2_2) ∧ w'.cell? ⟨gb234, 0, none⟩ = some (.bool a3_0) ∧ w'.cell? ⟨gb234, 1, none⟩ = some (.int .i64 a3_1) ∧ w'.cell? ⟨gb234, 2, none⟩ = some (.int .i64 a3_2)) ∧ (w'.heap[gb232]? = some (.cells #[.bool a1_0, .int .i64 a1_1, .int .i64 a1_2] 27 (0, 0))) ∧ (w'.heap[gb233]? = some (.cells #[.bool a2_0, .int .i64 a2_1, .int .i64 a2_2] 27 (0, 0))) ∧ (w'.heap[gb234]? = some (.cells #[.bool a3_0, .int .i64 a3_1, .int .i64 a3_2] 27 (0, 0))) ∧ (w'.heap[gb247]? = some (.cells #[.bool t244, .int .i64 t245, .int .i64 t246] 23 (0, 0))) ∧ (w'.heap[s_]? = some (.cells #[.bool false, .int .i64 0, .int .i64 0] 23 (0, 0))) ∧ (w.heap.size ≤ s_) ∧ (w.heap.size ≤ s_) ∧ (gb232 ≠ s_) ∧ (s_ ≠ gb232) ∧ (gb233 ≠ s_) ∧ (s_ ≠ gb233) ∧ (gb234 ≠ s_) ∧ (s_ ≠ gb234) ∧ (gb247 ≠ s_) ∧ (s_ ≠ gb247) ∧ (Below w.heap.size w w')) ?_ ?_
            rotate_left
            · intro hJ2_4_8
              refine join_ (σ := Unit) 4 #[true, true, true, true, true, true, false, false, false, false] (fun s_ => [(21, .agg #[.bool t235, .int .i64 t236, .int .i64 t237]), (23, .agg #[.bool t238, .int .i64 t239, .int .i64 t240])]) (fun s_ w' => (w'.cell? ⟨gb232, 0, none⟩ = some (.bool a1_0) ∧ w'.cell? ⟨gb232, 1, none⟩ = some (.int .i64 a1_1) ∧ w'.cell? ⟨gb232, 2, none⟩ = some (.int .i64 a1_2) ∧ w'.cell? ⟨gb233, 0, none⟩ = some (.bool a2_0) ∧ w'.cell? ⟨gb233, 1, none⟩ = some (.int .i64 a2_1) ∧ w'.cell? ⟨gb233, 2, none⟩ = some (.int .i64 a2_2) ∧ w'.cell? ⟨gb234, 0, none⟩ = some (.bool a3_0) ∧ w'.cell? ⟨gb234, 1, none⟩ = some (.int .i64 a3_1) ∧ w'.cell? ⟨gb234, 2, none⟩ = some (.int .i64 a3_2)) ∧ (w'.heap[gb232]? = some (.cells #[.bool a1_0, .int .i64 a1_1, .int .i64 a1_2] 27 (0, 0))) ∧ (w'.heap[gb233]? = some (.cells #[.bool a2_0, .int .i64 a2_1, .int .i64 a2_2] 27 (0, 0))) ∧ (w'.heap[gb234]? = some (.cells #[.bool a3_0, .int .i64 a3_1, .int .i64 a3_2] 27 (0, 0))) ∧ (w'.heap[gb247]? = some (.cells #[.bool t244, .int .i64 t245, .int .i64 t246] 23 (0, 0))) ∧ (Below w.heap.size w w')) ?_ ?_
              rotate_left
              · intro hJ2_4
                refine join_ (σ := Nat) 4 #[true, true, true, true, false, true, false, false, true, false] (fun s_ => [(21, .agg #[.bool t235, .int .i64 t236, .int .i64 t237]), (10, .pointer (some ⟨s_, 0, none⟩))]) (fun s_ w' => (w'.cell? ⟨gb232, 0, none⟩ = some (.bool a1_0) ∧ w'.cell? ⟨gb232, 1, none⟩ = some (.int .i64 a1_1) ∧ w'.cell? ⟨gb232, 2, none⟩ = some (.int .i64 a1_2) ∧ w'.cell? ⟨gb233, 0, none⟩ = some (.bool a2_0) ∧ w'.cell? ⟨gb233, 1, none⟩ = some (.int .i64 a2_1) ∧ w'.cell? ⟨gb233, 2, none⟩ = some (.int .i64 a2_2) ∧ w'.cell? ⟨gb234, 0, none⟩ = some (.bool a3_0) ∧ w'.cell? ⟨gb234, 1, none⟩ = some (.int .i64 a3_1) ∧ w'.cell? ⟨gb234, 2, none⟩ = some (.int .i64 a3_2)) ∧ (w'.heap[gb232]? = some (.cells #[.bool a1_0, .int .i64 a1_1, .int .i64 a1_2] 27 (0, 0))) ∧ (w'.heap[gb233]? = some (.cells #[.bool a2_0, .int .i64 a2_1, .int .i64 a2_2] 27 (0, 0))) ∧ (w'.heap[gb234]? = some (.cells #[.bool a3_0, .int .i64 a3_1, .int .i64 a3_2] 27 (0, 0))) ∧ (w'.heap[gb247]? = some (.cells #[.bool t244, .int .i64 t245, .int .i64 t246] 23 (0, 0))) ∧ (w'.heap[s_]? = some (.cells #[.bool false, .int .i64 0, .int .i64 0] 23 (0, 0))) ∧ (w.heap.size ≤ s_) ∧ (w.heap.size ≤ s_) ∧ (gb232 ≠ s_) ∧ (s_ ≠ gb232) ∧ (gb233 ≠ s_) ∧ (s_ ≠ gb233) ∧ (gb234 ≠ s_) ∧ (s_ ≠ gb234) ∧ (gb247 ≠ s_) ∧ (s_ ≠ gb247) ∧ (Below w.heap.size w w')) ?_ ?_
                rotate_left
                · intro hJ2_8
                  refine join_ (σ := Unit) 5 #[true, true, true, true, false, true, false, false, false, false] (fun s_ => [(21, .agg #[.bool t235, .int .i64 t236, .int .i64 t237])]) (fun s_ w' => (w'.cell? ⟨gb232, 0, none⟩ = some (.bool a1_0) ∧ w'.cell? ⟨gb232, 1, none⟩ = some (.int .i64 a1_1) ∧ w'.cell? ⟨gb232, 2, none⟩ = some (.int .i64 a1_2) ∧ w'.cell? ⟨gb233, 0, none⟩ = some (.bool a2_0) ∧ w'.cell? ⟨gb233, 1, none⟩ = some (.int .i64 a2_1) ∧ w'.cell? ⟨gb233, 2, none⟩ = some (.int .i64 a2_2) ∧ w'.cell? ⟨gb234, 0, none⟩ = some (.bool a3_0) ∧ w'.cell? ⟨gb234, 1, none⟩ = some (.int .i64 a3_1) ∧ w'.cell? ⟨gb234, 2, none⟩ = some (.int .i64 a3_2)) ∧ (w'.heap[gb232]? = some (.cells #[.bool a1_0, .int .i64 a1_1, .int .i64 a1_2] 27 (0, 0))) ∧ (w'.heap[gb233]? = some (.cells #[.bool a2_0, .int .i64 a2_1, .int .i64 a2_2] 27 (0, 0))) ∧ (w'.heap[gb234]? = some (.cells #[.bool a3_0, .int .i64 a3_1, .int .i64 a3_2] 27 (0, 0))) ∧ (w'.heap[gb247]? = some (.cells #[.bool t244, .int .i64 t245, .int .i64 t246] 23 (0, 0))) ∧ (Below w.heap.size w w')) ?_ ?_
                  rotate_left
                  · intro hJ2
                    refine join_ (σ := Nat) 5 #[true, true, false, true, false, true, false, false, true, false] (fun s_ => [(10, .pointer (some ⟨s_, 0, none⟩))]) (fun s_ w' => (w'.cell? ⟨gb232, 0, none⟩ = some (.bool a1_0) ∧ w'.cell? ⟨gb232, 1, none⟩ = some (.int .i64 a1_1) ∧ w'.cell? ⟨gb232, 2, none⟩ = some (.int .i64 a1_2) ∧ w'.cell? ⟨gb233, 0, none⟩ = some (.bool a2_0) ∧ w'.cell? ⟨gb233, 1, none⟩ = some (.int .i64 a2_1) ∧ w'.cell? ⟨gb233, 2, none⟩ = some (.int .i64 a2_2) ∧ w'.cell? ⟨gb234, 0, none⟩ = some (.bool a3_0) ∧ w'.cell? ⟨gb234, 1, none⟩ = some (.int .i64 a3_1) ∧ w'.cell? ⟨gb234, 2, none⟩ = some (.int .i64 a3_2)) ∧ (w'.heap[gb232]? = some (.cells #[.bool a1_0, .int .i64 a1_1, .int .i64 a1_2] 27 (0, 0))) ∧ (w'.heap[gb233]? = some (.cells #[.bool a2_0, .int .i64 a2_1, .int .i64 a2_2] 27 (0, 0))) ∧ (w'.heap[gb234]? = some (.cells #[.bool a3_0, .int .i64 a3_1, .int .i64 a3_2] 27 (0, 0))) ∧ (w'.heap[gb247]? = some (.cells #[.bool t244, .int .i64 t245, .int .i64 t246] 23 (0, 0))) ∧ (w'.heap[s_]? = some (.cells #[.bool false, .int .i64 0, .int .i64 0] 23 (0, 0))) ∧ (w.heap.size ≤ s_) ∧ (w.heap.size ≤ s_) ∧ (gb232 ≠ s_) ∧ (s_ ≠ gb232) ∧ (gb233 ≠ s_) ∧ (s_ ≠ gb233) ∧ (gb234 ≠ s_) ∧ (s_ ≠ gb234) ∧ (gb247 ≠ s_) ∧ (s_ ≠ gb247) ∧ (Below w.heap.size w w')) ?_ ?_
                    rotate_left
                    · intro hJ8
                      refine two_ (i := 2) (j := 8) (Ni := some 21) (Nj := some 10) #[true, true, true, true, false, true, false, false, false, false] #[true, true, false, true, false, true, false, false, true, false] rfl rfl rfl rfl (two_of HT_.out (by kernel_rfl)) (by decide) (by decide) (fun K hK => ?_) (fun K hK => ?_)
                      · skip
                        refine goes_ Try.func19 (by kernel_rfl) rfl #[.agg #[.bool a1_0, .int .i64 a1_1, .int .i64 a1_2]] (by rfl) rfl rfl (by (try simp only [List.map_toArray, List.map_cons, List.map_nil]); first | done | rfl | (simp only [List.length_drop, List.length_take]; rfl)) ?_
                        with_reducible refine (laws_toSpan.calls a1_0 a1_1 a1_2 t235 t236 t237 _ A9.out).mono ?_
                        rintro e w30 ⟨rfl, hb⟩
                        refine ⟨_, rfl, ?_⟩
                        have n0_ := Aside0.mk (blk_below (g := gb232) (o := .cells #[.bool a1_0, .int .i64 a1_1, .int .i64 a1_2] 27 (0, 0)) (by (with_reducible repeat (first | refine blk_drewN ?_ _ | refine blk_drew ?_ | refine blk_alloc ?_ _)); exact BK232.out) hb)
                        have n1_ := Aside0.mk (blk_below (g := gb233) (o := .cells #[.bool a2_0, .int .i64 a2_1, .int .i64 a2_2] 27 (0, 0)) (by (with_reducible repeat (first | refine blk_drewN ?_ _ | refine blk_drew ?_ | refine blk_alloc ?_ _)); exact BK233.out) hb)
                        have n2_ := Aside0.mk (blk_below (g := gb234) (o := .cells #[.bool a3_0, .int .i64 a3_1, .int .i64 a3_2] 27 (0, 0)) (by (with_reducible repeat (first | refine blk_drewN ?_ _ | refine blk_drew ?_ | refine blk_alloc ?_ _)); exact BK234.out) hb)
                        have n3_ := Aside0.mk (blk_below (g := gb247) (o := .cells #[.bool t244, .int .i64 t245, .int .i64 t246] 23 (0, 0)) (by (with_reducible repeat (first | refine blk_drewN ?_ _ | refine blk_drew ?_ | refine blk_alloc ?_ _)); exact BK247.out) hb)
                        have n4_ := Aside0.mk (below_step (by repeat (first | (with_reducible first | exact HB.out | apply below_alloc | apply pw_below_drewN | apply below_drew1 | refine below_set ?_ GE232.out | refine below_set ?_ GE233.out | refine below_set ?_ GE234.out | refine below_set ?_ GE247.out) | exact HB.out)) hb)
                        clear BK232
                        clear BK233
                        clear BK234
                        clear BK247
                        clear HB
                        have BK232 := n0_
                        have BK233 := n1_
                        have BK234 := n2_
                        have BK247 := n3_
                        have HB := n4_
                        clear n0_ n1_ n2_ n3_ n4_
                        (try clear hb)
                        (try clear hb2)
                        (try clear hk)
                        (try clear hi)
                        refine hK.out _ _ ⟨(blk_cell BK232.out 0).trans rfl, (blk_cell BK232.out 1).trans rfl, (blk_cell BK232.out 2).trans rfl, (blk_cell BK233.out 0).trans rfl, (blk_cell BK233.out 1).trans rfl, (blk_cell BK233.out 2).trans rfl, (blk_cell BK234.out 0).trans rfl, (blk_cell BK234.out 1).trans rfl, (blk_cell BK234.out 2).trans rfl⟩ (fun hHeld => ?_)
                        clear hK K
                        refine norm_ (a' := ?_) ?_ ?_
                        rotate_left
                        · show Act.put _ (some 21) _ = _
                          simp only [Act.put, List.setIfInBounds_toArray, List.set_cons_zero, List.set_cons_succ, i64_w, i32_w]
                          rfl
                        exact norm_ (by first | (simp only [putAll, Act.put, List.setIfInBounds_toArray, List.set_cons_zero, List.set_cons_succ]; done) | (simp only [putAll, Act.put, List.setIfInBounds_toArray, List.set_cons_zero, List.set_cons_succ]; rfl)) (hJ2 () _ ⟨hHeld, (by (with_reducible repeat (first | refine blk_drewN ?_ _ | refine blk_drew ?_ | refine blk_alloc ?_ _)); exact BK232.out), (by (with_reducible repeat (first | refine blk_drewN ?_ _ | refine blk_drew ?_ | refine blk_alloc ?_ _)); exact BK233.out), (by (with_reducible repeat (first | refine blk_drewN ?_ _ | refine blk_drew ?_ | refine blk_alloc ?_ _)); exact BK234.out), (by (with_reducible repeat (first | refine blk_drewN ?_ _ | refine blk_drew ?_ | refine blk_alloc ?_ _)); exact BK247.out), (by repeat (first | (with_reducible first | exact HB.out | apply below_alloc | apply pw_below_drewN | apply below_drew1 | refine below_set ?_ GE232.out | refine below_set ?_ GE233.out | refine below_set ?_ GE234.out | refine below_set ?_ GE247.out) | exact HB.out))⟩)
                      · skip
                        refine box_step ?hg (N := 10) ?hd (cs := #[.bool false, .int .i64 0, .int .i64 0]) (t := 23) ?hr ?_; (case hd => rfl); (case hg => rfl); (case hr => first | (go_simp; done) | (go_simp; rfl))
                        intro gb260 hg w30 hbox hb
                        have n0_ := Aside0.mk (blk_below (g := gb232) (o := .cells #[.bool a1_0, .int .i64 a1_1, .int .i64 a1_2] 27 (0, 0)) (by (with_reducible repeat (first | refine blk_drewN ?_ _ | refine blk_drew ?_ | refine blk_alloc ?_ _)); exact BK232.out) hb)
                        have n1_ := Aside0.mk (blk_below (g := gb233) (o := .cells #[.bool a2_0, .int .i64 a2_1, .int .i64 a2_2] 27 (0, 0)) (by (with_reducible repeat (first | refine blk_drewN ?_ _ | refine blk_drew ?_ | refine blk_alloc ?_ _)); exact BK233.out) hb)
                        have n2_ := Aside0.mk (blk_below (g := gb234) (o := .cells #[.bool a3_0, .int .i64 a3_1, .int .i64 a3_2] 27 (0, 0)) (by (with_reducible repeat (first | refine blk_drewN ?_ _ | refine blk_drew ?_ | refine blk_alloc ?_ _)); exact BK234.out) hb)
                        have n3_ := Aside0.mk (blk_below (g := gb247) (o := .cells #[.bool t244, .int .i64 t245, .int .i64 t246] 23 (0, 0)) (by (with_reducible repeat (first | refine blk_drewN ?_ _ | refine blk_drew ?_ | refine blk_alloc ?_ _)); exact BK247.out) hb)
                        have n4_ := Aside0.mk (below_step (by repeat (first | (with_reducible first | exact HB.out | apply below_alloc | apply pw_below_drewN | apply below_drew1 | refine below_set ?_ GE232.out | refine below_set ?_ GE233.out | refine below_set ?_ GE234.out | refine below_set ?_ GE247.out) | exact HB.out)) hb)
                        have n5_ := Aside0.mk (hbox)
                        have n6_ := Aside0.mk ((by rw [hg]; exact (below_size (by repeat (first | (with_reducible first | exact HB.out | apply below_alloc | apply pw_below_drewN | apply below_drew1 | refine below_set ?_ GE232.out | refine below_set ?_ GE233.out | refine below_set ?_ GE234.out | refine below_set ?_ GE247.out) | exact HB.out))) : w.heap.size ≤ gb260))
                        have n7_ := Aside0.mk ((by rw [hg]; exact (below_size (by repeat (first | (with_reducible first | exact HB.out | apply below_alloc | apply pw_below_drewN | apply below_drew1 | refine below_set ?_ GE232.out | refine below_set ?_ GE233.out | refine below_set ?_ GE234.out | refine below_set ?_ GE247.out) | exact HB.out))) : w.heap.size ≤ gb260))
                        have n8_ := Aside0.mk ((by rw [hg]; exact Nat.ne_of_lt (blk_lt (g := gb232) (o := .cells #[.bool a1_0, .int .i64 a1_1, .int .i64 a1_2] 27 (0, 0)) (by (with_reducible repeat (first | refine blk_drewN ?_ _ | refine blk_drew ?_ | refine blk_alloc ?_ _)); exact BK232.out)) : gb232 ≠ gb260))
                        have n9_ := Aside0.mk ((by rw [hg]; exact Nat.ne_of_gt (blk_lt (g := gb232) (o := .cells #[.bool a1_0, .int .i64 a1_1, .int .i64 a1_2] 27 (0, 0)) (by (with_reducible repeat (first | refine blk_drewN ?_ _ | refine blk_drew ?_ | refine blk_alloc ?_ _)); exact BK232.out)) : gb260 ≠ gb232))
                        have n10_ := Aside0.mk ((by rw [hg]; exact Nat.ne_of_lt (blk_lt (g := gb233) (o := .cells #[.bool a2_0, .int .i64 a2_1, .int .i64 a2_2] 27 (0, 0)) (by (with_reducible repeat (first | refine blk_drewN ?_ _ | refine blk_drew ?_ | refine blk_alloc ?_ _)); exact BK233.out)) : gb233 ≠ gb260))
                        have n11_ := Aside0.mk ((by rw [hg]; exact Nat.ne_of_gt (blk_lt (g := gb233) (o := .cells #[.bool a2_0, .int .i64 a2_1, .int .i64 a2_2] 27 (0, 0)) (by (with_reducible repeat (first | refine blk_drewN ?_ _ | refine blk_drew ?_ | refine blk_alloc ?_ _)); exact BK233.out)) : gb260 ≠ gb233))
                        have n12_ := Aside0.mk ((by rw [hg]; exact Nat.ne_of_lt (blk_lt (g := gb234) (o := .cells #[.bool a3_0, .int .i64 a3_1, .int .i64 a3_2] 27 (0, 0)) (by (with_reducible repeat (first | refine blk_drewN ?_ _ | refine blk_drew ?_ | refine blk_alloc ?_ _)); exact BK234.out)) : gb234 ≠ gb260))
                        have n13_ := Aside0.mk ((by rw [hg]; exact Nat.ne_of_gt (blk_lt (g := gb234) (o := .cells #[.bool a3_0, .int .i64 a3_1, .int .i64 a3_2] 27 (0, 0)) (by (with_reducible repeat (first | refine blk_drewN ?_ _ | refine blk_drew ?_ | refine blk_alloc ?_ _)); exact BK234.out)) : gb260 ≠ gb234))
                        have n14_ := Aside0.mk ((by rw [hg]; exact Nat.ne_of_lt (blk_lt (g := gb247) (o := .cells #[.bool t244, .int .i64 t245, .int .i64 t246] 23 (0, 0)) (by (with_reducible repeat (first | refine blk_drewN ?_ _ | refine blk_drew ?_ | refine blk_alloc ?_ _)); exact BK247.out)) : gb247 ≠ gb260))
                        have n15_ := Aside0.mk ((by rw [hg]; exact Nat.ne_of_gt (blk_lt (g := gb247) (o := .cells #[.bool t244, .int .i64 t245, .int .i64 t246] 23 (0, 0)) (by (with_reducible repeat (first | refine blk_drewN ?_ _ | refine blk_drew ?_ | refine blk_alloc ?_ _)); exact BK247.out)) : gb260 ≠ gb247))
                        clear BK232
                        clear BK233
                        clear BK234
                        clear BK247
                        clear HB
                        have BK232 := n0_
                        have BK233 := n1_
                        have BK234 := n2_
                        have BK247 := n3_
                        have HB := n4_
                        have BK260 := n5_
                        have GW260 := n6_
                        have GE260 := n7_
                        have NB232_260 := n8_
                        have NB260_232 := n9_
                        have NB233_260 := n10_
                        have NB260_233 := n11_
                        have NB234_260 := n12_
                        have NB260_234 := n13_
                        have NB247_260 := n14_
                        have NB260_247 := n15_
                        clear n0_ n1_ n2_ n3_ n4_ n5_ n6_ n7_ n8_ n9_ n10_ n11_ n12_ n13_ n14_ n15_
                        clear hb hbox hg
                        refine hK.out _ _ ⟨(blk_cell BK232.out 0).trans rfl, (blk_cell BK232.out 1).trans rfl, (blk_cell BK232.out 2).trans rfl, (blk_cell BK233.out 0).trans rfl, (blk_cell BK233.out 1).trans rfl, (blk_cell BK233.out 2).trans rfl, (blk_cell BK234.out 0).trans rfl, (blk_cell BK234.out 1).trans rfl, (blk_cell BK234.out 2).trans rfl⟩ (fun hHeld => ?_)
                        clear hK K
                        refine norm_ (a' := ?_) ?_ ?_
                        rotate_left
                        · show Act.put _ (some 10) _ = _
                          simp only [Act.put, List.setIfInBounds_toArray, List.set_cons_zero, List.set_cons_succ, i64_w, i32_w]
                          rfl
                        exact norm_ (by first | (simp only [putAll, Act.put, List.setIfInBounds_toArray, List.set_cons_zero, List.set_cons_succ]; done) | (simp only [putAll, Act.put, List.setIfInBounds_toArray, List.set_cons_zero, List.set_cons_succ]; rfl)) (hJ8 (gb260) _ ⟨hHeld, (by (with_reducible repeat (first | refine blk_drewN ?_ _ | refine blk_drew ?_ | refine blk_alloc ?_ _)); exact BK232.out), (by (with_reducible repeat (first | refine blk_drewN ?_ _ | refine blk_drew ?_ | refine blk_alloc ?_ _)); exact BK233.out), (by (with_reducible repeat (first | refine blk_drewN ?_ _ | refine blk_drew ?_ | refine blk_alloc ?_ _)); exact BK234.out), (by (with_reducible repeat (first | refine blk_drewN ?_ _ | refine blk_drew ?_ | refine blk_alloc ?_ _)); exact BK247.out), (by (with_reducible repeat (first | refine blk_drewN ?_ _ | refine blk_drew ?_ | refine blk_alloc ?_ _)); exact BK260.out), GW260.out, GE260.out, NB232_260.out, NB260_232.out, NB233_260.out, NB260_233.out, NB234_260.out, NB260_234.out, NB247_260.out, NB260_247.out, (by repeat (first | (with_reducible first | exact HB.out | apply below_alloc | apply pw_below_drewN | apply below_drew1 | refine below_set ?_ GE232.out | refine below_set ?_ GE233.out | refine below_set ?_ GE234.out | refine below_set ?_ GE247.out | refine below_set ?_ GE260.out) | exact HB.out))⟩)
                    · skip
                      rintro gb260 w31 ⟨hS_, h0_, h1_, h2_, h3_, h4_, h5_, h6_, h7_, h8_, h9_, h10_, h11_, h12_, h13_, h14_, h15_⟩
                      have n0_ : Aside0 (w31.heap[gb232]? = some (.cells #[.bool a1_0, .int .i64 a1_1, .int .i64 a1_2] 27 (0, 0))) := ⟨h0_⟩
                      have n1_ : Aside0 (w31.heap[gb233]? = some (.cells #[.bool a2_0, .int .i64 a2_1, .int .i64 a2_2] 27 (0, 0))) := ⟨h1_⟩
                      have n2_ : Aside0 (w31.heap[gb234]? = some (.cells #[.bool a3_0, .int .i64 a3_1, .int .i64 a3_2] 27 (0, 0))) := ⟨h2_⟩
                      have n3_ : Aside0 (w31.heap[gb247]? = some (.cells #[.bool t244, .int .i64 t245, .int .i64 t246] 23 (0, 0))) := ⟨h3_⟩
                      have n4_ : Aside0 (w31.heap[gb260]? = some (.cells #[.bool false, .int .i64 0, .int .i64 0] 23 (0, 0))) := ⟨h4_⟩
                      have n5_ : Aside0 (w.heap.size ≤ gb260) := ⟨h5_⟩
                      have n6_ : Aside0 (w.heap.size ≤ gb260) := ⟨h6_⟩
                      have n7_ : Aside0 (gb232 ≠ gb260) := ⟨h7_⟩
                      have n8_ : Aside0 (gb260 ≠ gb232) := ⟨h8_⟩
                      have n9_ : Aside0 (gb233 ≠ gb260) := ⟨h9_⟩
                      have n10_ : Aside0 (gb260 ≠ gb233) := ⟨h10_⟩
                      have n11_ : Aside0 (gb234 ≠ gb260) := ⟨h11_⟩
                      have n12_ : Aside0 (gb260 ≠ gb234) := ⟨h12_⟩
                      have n13_ : Aside0 (gb247 ≠ gb260) := ⟨h13_⟩
                      have n14_ : Aside0 (gb260 ≠ gb247) := ⟨h14_⟩
                      have n15_ : Aside0 (Below w.heap.size w w31) := ⟨h15_⟩
                      clear BK232
                      clear BK233
                      clear BK234
                      clear BK247
                      clear HB
                      clear h0_ h1_ h2_ h3_ h4_ h5_ h6_ h7_ h8_ h9_ h10_ h11_ h12_ h13_ h14_ h15_
                      have BK232 := n0_
                      have BK233 := n1_
                      have BK234 := n2_
                      have BK247 := n3_
                      have BK260 := n4_
                      have GW260 := n5_
                      have GE260 := n6_
                      have NB232_260 := n7_
                      have NB260_232 := n8_
                      have NB233_260 := n9_
                      have NB260_233 := n10_
                      have NB234_260 := n11_
                      have NB260_234 := n12_
                      have NB247_260 := n13_
                      have NB260_247 := n14_
                      have HB := n15_
                      clear n0_ n1_ n2_ n3_ n4_ n5_ n6_ n7_ n8_ n9_ n10_ n11_ n12_ n13_ n14_ n15_
                      have hHeld : w31.cell? ⟨gb232, 0, none⟩ = some (.bool a1_0) ∧ w31.cell? ⟨gb232, 1, none⟩ = some (.int .i64 a1_1) ∧ w31.cell? ⟨gb232, 2, none⟩ = some (.int .i64 a1_2) ∧ w31.cell? ⟨gb233, 0, none⟩ = some (.bool a2_0) ∧ w31.cell? ⟨gb233, 1, none⟩ = some (.int .i64 a2_1) ∧ w31.cell? ⟨gb233, 2, none⟩ = some (.int .i64 a2_2) ∧ w31.cell? ⟨gb234, 0, none⟩ = some (.bool a3_0) ∧ w31.cell? ⟨gb234, 1, none⟩ = some (.int .i64 a3_1) ∧ w31.cell? ⟨gb234, 2, none⟩ = some (.int .i64 a3_2) := hS_
                      refine norm_ (a' := ?_) ?_ ?_
                      rotate_left
                      · simp only [putAll, Act.put, List.setIfInBounds_toArray, List.set_cons_zero, List.set_cons_succ]
                        rfl
                      refine one_ (i := 2) (N := some 21) #[true, true, true, true, false, true, false, false, true, false] rfl rfl (one_of HT_.out (by kernel_rfl)) (by decide) (fun K hK => ?_)
                      refine goes_ Try.func19 (by kernel_rfl) rfl #[.agg #[.bool a1_0, .int .i64 a1_1, .int .i64 a1_2]] (by rfl) rfl rfl (by (try simp only [List.map_toArray, List.map_cons, List.map_nil]); first | done | rfl | (simp only [List.length_drop, List.length_take]; rfl)) ?_
                      with_reducible refine (laws_toSpan.calls a1_0 a1_1 a1_2 t235 t236 t237 _ A9.out).mono ?_
                      rintro e w32 ⟨rfl, hb⟩
                      refine ⟨_, rfl, ?_⟩
                      have n0_ := Aside0.mk (blk_below (g := gb232) (o := .cells #[.bool a1_0, .int .i64 a1_1, .int .i64 a1_2] 27 (0, 0)) (by (with_reducible repeat (first | refine blk_drewN ?_ _ | refine blk_drew ?_ | refine blk_alloc ?_ _)); exact BK232.out) hb)
                      have n1_ := Aside0.mk (blk_below (g := gb233) (o := .cells #[.bool a2_0, .int .i64 a2_1, .int .i64 a2_2] 27 (0, 0)) (by (with_reducible repeat (first | refine blk_drewN ?_ _ | refine blk_drew ?_ | refine blk_alloc ?_ _)); exact BK233.out) hb)
                      have n2_ := Aside0.mk (blk_below (g := gb234) (o := .cells #[.bool a3_0, .int .i64 a3_1, .int .i64 a3_2] 27 (0, 0)) (by (with_reducible repeat (first | refine blk_drewN ?_ _ | refine blk_drew ?_ | refine blk_alloc ?_ _)); exact BK234.out) hb)
                      have n3_ := Aside0.mk (blk_below (g := gb247) (o := .cells #[.bool t244, .int .i64 t245, .int .i64 t246] 23 (0, 0)) (by (with_reducible repeat (first | refine blk_drewN ?_ _ | refine blk_drew ?_ | refine blk_alloc ?_ _)); exact BK247.out) hb)
                      have n4_ := Aside0.mk (blk_below (g := gb260) (o := .cells #[.bool false, .int .i64 0, .int .i64 0] 23 (0, 0)) (by (with_reducible repeat (first | refine blk_drewN ?_ _ | refine blk_drew ?_ | refine blk_alloc ?_ _)); exact BK260.out) hb)
                      have n5_ := Aside0.mk (below_step (by repeat (first | (with_reducible first | exact HB.out | apply below_alloc | apply pw_below_drewN | apply below_drew1 | refine below_set ?_ GE232.out | refine below_set ?_ GE233.out | refine below_set ?_ GE234.out | refine below_set ?_ GE247.out | refine below_set ?_ GE260.out) | exact HB.out)) hb)
                      clear BK232
                      clear BK233
                      clear BK234
                      clear BK247
                      clear BK260
                      clear HB
                      have BK232 := n0_
                      have BK233 := n1_
                      have BK234 := n2_
                      have BK247 := n3_
                      have BK260 := n4_
                      have HB := n5_
                      clear n0_ n1_ n2_ n3_ n4_ n5_
                      (try clear hb)
                      (try clear hb2)
                      (try clear hk)
                      (try clear hi)
                      refine hK.out _ _ ⟨(blk_cell BK232.out 0).trans rfl, (blk_cell BK232.out 1).trans rfl, (blk_cell BK232.out 2).trans rfl, (blk_cell BK233.out 0).trans rfl, (blk_cell BK233.out 1).trans rfl, (blk_cell BK233.out 2).trans rfl, (blk_cell BK234.out 0).trans rfl, (blk_cell BK234.out 1).trans rfl, (blk_cell BK234.out 2).trans rfl⟩ (fun hHeld => ?_)
                      clear hK K
                      refine norm_ (a' := ?_) ?_ ?_
                      rotate_left
                      · show Act.put _ (some 21) _ = _
                        simp only [Act.put, List.setIfInBounds_toArray, List.set_cons_zero, List.set_cons_succ, i64_w, i32_w]
                        rfl
                      exact norm_ (by first | (simp only [putAll, Act.put, List.setIfInBounds_toArray, List.set_cons_zero, List.set_cons_succ]; done) | (simp only [putAll, Act.put, List.setIfInBounds_toArray, List.set_cons_zero, List.set_cons_succ]; rfl)) (hJ2_8 (gb260) _ ⟨hHeld, (by (with_reducible repeat (first | refine blk_drewN ?_ _ | refine blk_drew ?_ | refine blk_alloc ?_ _)); exact BK232.out), (by (with_reducible repeat (first | refine blk_drewN ?_ _ | refine blk_drew ?_ | refine blk_alloc ?_ _)); exact BK233.out), (by (with_reducible repeat (first | refine blk_drewN ?_ _ | refine blk_drew ?_ | refine blk_alloc ?_ _)); exact BK234.out), (by (with_reducible repeat (first | refine blk_drewN ?_ _ | refine blk_drew ?_ | refine blk_alloc ?_ _)); exact BK247.out), (by (with_reducible repeat (first | refine blk_drewN ?_ _ | refine blk_drew ?_ | refine blk_alloc ?_ _)); exact BK260.out), GW260.out, GE260.out, NB232_260.out, NB260_232.out, NB233_260.out, NB260_233.out, NB234_260.out, NB260_234.out, NB247_260.out, NB260_247.out, (by repeat (first | (with_reducible first | exact HB.out | apply below_alloc | apply pw_below_drewN | apply below_drew1 | refine below_set ?_ GE232.out | refine below_set ?_ GE233.out | refine below_set ?_ GE234.out | refine below_set ?_ GE247.out | refine below_set ?_ GE260.out) | exact HB.out))⟩)
                  · skip
                    rintro _ w31 ⟨hS_, h0_, h1_, h2_, h3_, h4_⟩
                    have n0_ : Aside0 (w31.heap[gb232]? = some (.cells #[.bool a1_0, .int .i64 a1_1, .int .i64 a1_2] 27 (0, 0))) := ⟨h0_⟩
                    have n1_ : Aside0 (w31.heap[gb233]? = some (.cells #[.bool a2_0, .int .i64 a2_1, .int .i64 a2_2] 27 (0, 0))) := ⟨h1_⟩
                    have n2_ : Aside0 (w31.heap[gb234]? = some (.cells #[.bool a3_0, .int .i64 a3_1, .int .i64 a3_2] 27 (0, 0))) := ⟨h2_⟩
                    have n3_ : Aside0 (w31.heap[gb247]? = some (.cells #[.bool t244, .int .i64 t245, .int .i64 t246] 23 (0, 0))) := ⟨h3_⟩
                    have n4_ : Aside0 (Below w.heap.size w w31) := ⟨h4_⟩
                    clear BK232
                    clear BK233
                    clear BK234
                    clear BK247
                    clear HB
                    clear h0_ h1_ h2_ h3_ h4_
                    have BK232 := n0_
                    have BK233 := n1_
                    have BK234 := n2_
                    have BK247 := n3_
                    have HB := n4_
                    clear n0_ n1_ n2_ n3_ n4_
                    have hHeld : w31.cell? ⟨gb232, 0, none⟩ = some (.bool a1_0) ∧ w31.cell? ⟨gb232, 1, none⟩ = some (.int .i64 a1_1) ∧ w31.cell? ⟨gb232, 2, none⟩ = some (.int .i64 a1_2) ∧ w31.cell? ⟨gb233, 0, none⟩ = some (.bool a2_0) ∧ w31.cell? ⟨gb233, 1, none⟩ = some (.int .i64 a2_1) ∧ w31.cell? ⟨gb233, 2, none⟩ = some (.int .i64 a2_2) ∧ w31.cell? ⟨gb234, 0, none⟩ = some (.bool a3_0) ∧ w31.cell? ⟨gb234, 1, none⟩ = some (.int .i64 a3_1) ∧ w31.cell? ⟨gb234, 2, none⟩ = some (.int .i64 a3_2) := hS_
                    refine norm_ (a' := ?_) ?_ ?_
                    rotate_left
                    · simp only [putAll, Act.put, List.setIfInBounds_toArray, List.set_cons_zero, List.set_cons_succ]
                      rfl
                    refine two_ (i := 4) (j := 8) (Ni := some 23) (Nj := some 10) #[true, true, true, true, true, true, false, false, false, false] #[true, true, true, true, false, true, false, false, true, false] rfl rfl rfl rfl (two_of HT_.out (by kernel_rfl)) (by decide) (by decide) (fun K hK => ?_) (fun K hK => ?_)
                    · skip
                      refine goes_ Try.func19 (by kernel_rfl) rfl #[.agg #[.bool a2_0, .int .i64 a2_1, .int .i64 a2_2]] (by rfl) rfl rfl (by (try simp only [List.map_toArray, List.map_cons, List.map_nil]); first | done | rfl | (simp only [List.length_drop, List.length_take]; rfl)) ?_
                      with_reducible refine (laws_toSpan.calls a2_0 a2_1 a2_2 t238 t239 t240 _ A10.out).mono ?_
                      rintro e w32 ⟨rfl, hb⟩
                      refine ⟨_, rfl, ?_⟩
                      have n0_ := Aside0.mk (blk_below (g := gb232) (o := .cells #[.bool a1_0, .int .i64 a1_1, .int .i64 a1_2] 27 (0, 0)) (by (with_reducible repeat (first | refine blk_drewN ?_ _ | refine blk_drew ?_ | refine blk_alloc ?_ _)); exact BK232.out) hb)
                      have n1_ := Aside0.mk (blk_below (g := gb233) (o := .cells #[.bool a2_0, .int .i64 a2_1, .int .i64 a2_2] 27 (0, 0)) (by (with_reducible repeat (first | refine blk_drewN ?_ _ | refine blk_drew ?_ | refine blk_alloc ?_ _)); exact BK233.out) hb)
                      have n2_ := Aside0.mk (blk_below (g := gb234) (o := .cells #[.bool a3_0, .int .i64 a3_1, .int .i64 a3_2] 27 (0, 0)) (by (with_reducible repeat (first | refine blk_drewN ?_ _ | refine blk_drew ?_ | refine blk_alloc ?_ _)); exact BK234.out) hb)
                      have n3_ := Aside0.mk (blk_below (g := gb247) (o := .cells #[.bool t244, .int .i64 t245, .int .i64 t246] 23 (0, 0)) (by (with_reducible repeat (first | refine blk_drewN ?_ _ | refine blk_drew ?_ | refine blk_alloc ?_ _)); exact BK247.out) hb)
                      have n4_ := Aside0.mk (below_step (by repeat (first | (with_reducible first | exact HB.out | apply below_alloc | apply pw_below_drewN | apply below_drew1 | refine below_set ?_ GE232.out | refine below_set ?_ GE233.out | refine below_set ?_ GE234.out | refine below_set ?_ GE247.out) | exact HB.out)) hb)
                      clear BK232
                      clear BK233
                      clear BK234
                      clear BK247
                      clear HB
                      have BK232 := n0_
                      have BK233 := n1_
                      have BK234 := n2_
                      have BK247 := n3_
                      have HB := n4_
                      clear n0_ n1_ n2_ n3_ n4_
                      (try clear hb)
                      (try clear hb2)
                      (try clear hk)
                      (try clear hi)
                      refine hK.out _ _ ⟨(blk_cell BK232.out 0).trans rfl, (blk_cell BK232.out 1).trans rfl, (blk_cell BK232.out 2).trans rfl, (blk_cell BK233.out 0).trans rfl, (blk_cell BK233.out 1).trans rfl, (blk_cell BK233.out 2).trans rfl, (blk_cell BK234.out 0).trans rfl, (blk_cell BK234.out 1).trans rfl, (blk_cell BK234.out 2).trans rfl⟩ (fun hHeld => ?_)
                      clear hK K
                      refine norm_ (a' := ?_) ?_ ?_
                      rotate_left
                      · show Act.put _ (some 23) _ = _
                        simp only [Act.put, List.setIfInBounds_toArray, List.set_cons_zero, List.set_cons_succ, i64_w, i32_w]
                        rfl
                      exact norm_ (by first | (simp only [putAll, Act.put, List.setIfInBounds_toArray, List.set_cons_zero, List.set_cons_succ]; done) | (simp only [putAll, Act.put, List.setIfInBounds_toArray, List.set_cons_zero, List.set_cons_succ]; rfl)) (hJ2_4 () _ ⟨hHeld, (by (with_reducible repeat (first | refine blk_drewN ?_ _ | refine blk_drew ?_ | refine blk_alloc ?_ _)); exact BK232.out), (by (with_reducible repeat (first | refine blk_drewN ?_ _ | refine blk_drew ?_ | refine blk_alloc ?_ _)); exact BK233.out), (by (with_reducible repeat (first | refine blk_drewN ?_ _ | refine blk_drew ?_ | refine blk_alloc ?_ _)); exact BK234.out), (by (with_reducible repeat (first | refine blk_drewN ?_ _ | refine blk_drew ?_ | refine blk_alloc ?_ _)); exact BK247.out), (by repeat (first | (with_reducible first | exact HB.out | apply below_alloc | apply pw_below_drewN | apply below_drew1 | refine below_set ?_ GE232.out | refine below_set ?_ GE233.out | refine below_set ?_ GE234.out | refine below_set ?_ GE247.out) | exact HB.out))⟩)
                    · skip
                      refine box_step ?hg (N := 10) ?hd (cs := #[.bool false, .int .i64 0, .int .i64 0]) (t := 23) ?hr ?_; (case hd => rfl); (case hg => rfl); (case hr => first | (go_simp; done) | (go_simp; rfl))
                      intro gb260 hg w32 hbox hb
                      have n0_ := Aside0.mk (blk_below (g := gb232) (o := .cells #[.bool a1_0, .int .i64 a1_1, .int .i64 a1_2] 27 (0, 0)) (by (with_reducible repeat (first | refine blk_drewN ?_ _ | refine blk_drew ?_ | refine blk_alloc ?_ _)); exact BK232.out) hb)
                      have n1_ := Aside0.mk (blk_below (g := gb233) (o := .cells #[.bool a2_0, .int .i64 a2_1, .int .i64 a2_2] 27 (0, 0)) (by (with_reducible repeat (first | refine blk_drewN ?_ _ | refine blk_drew ?_ | refine blk_alloc ?_ _)); exact BK233.out) hb)
                      have n2_ := Aside0.mk (blk_below (g := gb234) (o := .cells #[.bool a3_0, .int .i64 a3_1, .int .i64 a3_2] 27 (0, 0)) (by (with_reducible repeat (first | refine blk_drewN ?_ _ | refine blk_drew ?_ | refine blk_alloc ?_ _)); exact BK234.out) hb)
                      have n3_ := Aside0.mk (blk_below (g := gb247) (o := .cells #[.bool t244, .int .i64 t245, .int .i64 t246] 23 (0, 0)) (by (with_reducible repeat (first | refine blk_drewN ?_ _ | refine blk_drew ?_ | refine blk_alloc ?_ _)); exact BK247.out) hb)
                      have n4_ := Aside0.mk (below_step (by repeat (first | (with_reducible first | exact HB.out | apply below_alloc | apply pw_below_drewN | apply below_drew1 | refine below_set ?_ GE232.out | refine below_set ?_ GE233.out | refine below_set ?_ GE234.out | refine below_set ?_ GE247.out) | exact HB.out)) hb)
                      have n5_ := Aside0.mk (hbox)
                      have n6_ := Aside0.mk ((by rw [hg]; exact (below_size (by repeat (first | (with_reducible first | exact HB.out | apply below_alloc | apply pw_below_drewN | apply below_drew1 | refine below_set ?_ GE232.out | refine below_set ?_ GE233.out | refine below_set ?_ GE234.out | refine below_set ?_ GE247.out) | exact HB.out))) : w.heap.size ≤ gb260))
                      have n7_ := Aside0.mk ((by rw [hg]; exact (below_size (by repeat (first | (with_reducible first | exact HB.out | apply below_alloc | apply pw_below_drewN | apply below_drew1 | refine below_set ?_ GE232.out | refine below_set ?_ GE233.out | refine below_set ?_ GE234.out | refine below_set ?_ GE247.out) | exact HB.out))) : w.heap.size ≤ gb260))
                      have n8_ := Aside0.mk ((by rw [hg]; exact Nat.ne_of_lt (blk_lt (g := gb232) (o := .cells #[.bool a1_0, .int .i64 a1_1, .int .i64 a1_2] 27 (0, 0)) (by (with_reducible repeat (first | refine blk_drewN ?_ _ | refine blk_drew ?_ | refine blk_alloc ?_ _)); exact BK232.out)) : gb232 ≠ gb260))
                      have n9_ := Aside0.mk ((by rw [hg]; exact Nat.ne_of_gt (blk_lt (g := gb232) (o := .cells #[.bool a1_0, .int .i64 a1_1, .int .i64 a1_2] 27 (0, 0)) (by (with_reducible repeat (first | refine blk_drewN ?_ _ | refine blk_drew ?_ | refine blk_alloc ?_ _)); exact BK232.out)) : gb260 ≠ gb232))
                      have n10_ := Aside0.mk ((by rw [hg]; exact Nat.ne_of_lt (blk_lt (g := gb233) (o := .cells #[.bool a2_0, .int .i64 a2_1, .int .i64 a2_2] 27 (0, 0)) (by (with_reducible repeat (first | refine blk_drewN ?_ _ | refine blk_drew ?_ | refine blk_alloc ?_ _)); exact BK233.out)) : gb233 ≠ gb260))
                      have n11_ := Aside0.mk ((by rw [hg]; exact Nat.ne_of_gt (blk_lt (g := gb233) (o := .cells #[.bool a2_0, .int .i64 a2_1, .int .i64 a2_2] 27 (0, 0)) (by (with_reducible repeat (first | refine blk_drewN ?_ _ | refine blk_drew ?_ | refine blk_alloc ?_ _)); exact BK233.out)) : gb260 ≠ gb233))
                      have n12_ := Aside0.mk ((by rw [hg]; exact Nat.ne_of_lt (blk_lt (g := gb234) (o := .cells #[.bool a3_0, .int .i64 a3_1, .int .i64 a3_2] 27 (0, 0)) (by (with_reducible repeat (first | refine blk_drewN ?_ _ | refine blk_drew ?_ | refine blk_alloc ?_ _)); exact BK234.out)) : gb234 ≠ gb260))
                      have n13_ := Aside0.mk ((by rw [hg]; exact Nat.ne_of_gt (blk_lt (g := gb234) (o := .cells #[.bool a3_0, .int .i64 a3_1, .int .i64 a3_2] 27 (0, 0)) (by (with_reducible repeat (first | refine blk_drewN ?_ _ | refine blk_drew ?_ | refine blk_alloc ?_ _)); exact BK234.out)) : gb260 ≠ gb234))
                      have n14_ := Aside0.mk ((by rw [hg]; exact Nat.ne_of_lt (blk_lt (g := gb247) (o := .cells #[.bool t244, .int .i64 t245, .int .i64 t246] 23 (0, 0)) (by (with_reducible repeat (first | refine blk_drewN ?_ _ | refine blk_drew ?_ | refine blk_alloc ?_ _)); exact BK247.out)) : gb247 ≠ gb260))
                      have n15_ := Aside0.mk ((by rw [hg]; exact Nat.ne_of_gt (blk_lt (g := gb247) (o := .cells #[.bool t244, .int .i64 t245, .int .i64 t246] 23 (0, 0)) (by (with_reducible repeat (first | refine blk_drewN ?_ _ | refine blk_drew ?_ | refine blk_alloc ?_ _)); exact BK247.out)) : gb260 ≠ gb247))
                      clear BK232
                      clear BK233
                      clear BK234
                      clear BK247
                      clear HB
                      have BK232 := n0_
                      have BK233 := n1_
                      have BK234 := n2_
                      have BK247 := n3_
                      have HB := n4_
                      have BK260 := n5_
                      have GW260 := n6_
                      have GE260 := n7_
                      have NB232_260 := n8_
                      have NB260_232 := n9_
                      have NB233_260 := n10_
                      have NB260_233 := n11_
                      have NB234_260 := n12_
                      have NB260_234 := n13_
                      have NB247_260 := n14_
                      have NB260_247 := n15_
                      clear n0_ n1_ n2_ n3_ n4_ n5_ n6_ n7_ n8_ n9_ n10_ n11_ n12_ n13_ n14_ n15_
                      clear hb hbox hg
                      refine hK.out _ _ ⟨(blk_cell BK232.out 0).trans rfl, (blk_cell BK232.out 1).trans rfl, (blk_cell BK232.out 2).trans rfl, (blk_cell BK233.out 0).trans rfl, (blk_cell BK233.out 1).trans rfl, (blk_cell BK233.out 2).trans rfl, (blk_cell BK234.out 0).trans rfl, (blk_cell BK234.out 1).trans rfl, (blk_cell BK234.out 2).trans rfl⟩ (fun hHeld => ?_)
                      clear hK K
                      refine norm_ (a' := ?_) ?_ ?_
                      rotate_left
                      · show Act.put _ (some 10) _ = _
                        simp only [Act.put, List.setIfInBounds_toArray, List.set_cons_zero, List.set_cons_succ, i64_w, i32_w]
                        rfl
                      exact norm_ (by first | (simp only [putAll, Act.put, List.setIfInBounds_toArray, List.set_cons_zero, List.set_cons_succ]; done) | (simp only [putAll, Act.put, List.setIfInBounds_toArray, List.set_cons_zero, List.set_cons_succ]; rfl)) (hJ2_8 (gb260) _ ⟨hHeld, (by (with_reducible repeat (first | refine blk_drewN ?_ _ | refine blk_drew ?_ | refine blk_alloc ?_ _)); exact BK232.out), (by (with_reducible repeat (first | refine blk_drewN ?_ _ | refine blk_drew ?_ | refine blk_alloc ?_ _)); exact BK233.out), (by (with_reducible repeat (first | refine blk_drewN ?_ _ | refine blk_drew ?_ | refine blk_alloc ?_ _)); exact BK234.out), (by (with_reducible repeat (first | refine blk_drewN ?_ _ | refine blk_drew ?_ | refine blk_alloc ?_ _)); exact BK247.out), (by (with_reducible repeat (first | refine blk_drewN ?_ _ | refine blk_drew ?_ | refine blk_alloc ?_ _)); exact BK260.out), GW260.out, GE260.out, NB232_260.out, NB260_232.out, NB233_260.out, NB260_233.out, NB234_260.out, NB260_234.out, NB247_260.out, NB260_247.out, (by repeat (first | (with_reducible first | exact HB.out | apply below_alloc | apply pw_below_drewN | apply below_drew1 | refine below_set ?_ GE232.out | refine below_set ?_ GE233.out | refine below_set ?_ GE234.out | refine below_set ?_ GE247.out | refine below_set ?_ GE260.out) | exact HB.out))⟩)
                · skip
                  rintro gb260 w32 ⟨hS_, h0_, h1_, h2_, h3_, h4_, h5_, h6_, h7_, h8_, h9_, h10_, h11_, h12_, h13_, h14_, h15_⟩
                  have n0_ : Aside0 (w32.heap[gb232]? = some (.cells #[.bool a1_0, .int .i64 a1_1, .int .i64 a1_2] 27 (0, 0))) := ⟨h0_⟩
                  have n1_ : Aside0 (w32.heap[gb233]? = some (.cells #[.bool a2_0, .int .i64 a2_1, .int .i64 a2_2] 27 (0, 0))) := ⟨h1_⟩
                  have n2_ : Aside0 (w32.heap[gb234]? = some (.cells #[.bool a3_0, .int .i64 a3_1, .int .i64 a3_2] 27 (0, 0))) := ⟨h2_⟩
                  have n3_ : Aside0 (w32.heap[gb247]? = some (.cells #[.bool t244, .int .i64 t245, .int .i64 t246] 23 (0, 0))) := ⟨h3_⟩
                  have n4_ : Aside0 (w32.heap[gb260]? = some (.cells #[.bool false, .int .i64 0, .int .i64 0] 23 (0, 0))) := ⟨h4_⟩
                  have n5_ : Aside0 (w.heap.size ≤ gb260) := ⟨h5_⟩
                  have n6_ : Aside0 (w.heap.size ≤ gb260) := ⟨h6_⟩
                  have n7_ : Aside0 (gb232 ≠ gb260) := ⟨h7_⟩
                  have n8_ : Aside0 (gb260 ≠ gb232) := ⟨h8_⟩
                  have n9_ : Aside0 (gb233 ≠ gb260) := ⟨h9_⟩
                  have n10_ : Aside0 (gb260 ≠ gb233) := ⟨h10_⟩
                  have n11_ : Aside0 (gb234 ≠ gb260) := ⟨h11_⟩
                  have n12_ : Aside0 (gb260 ≠ gb234) := ⟨h12_⟩
                  have n13_ : Aside0 (gb247 ≠ gb260) := ⟨h13_⟩
                  have n14_ : Aside0 (gb260 ≠ gb247) := ⟨h14_⟩
                  have n15_ : Aside0 (Below w.heap.size w w32) := ⟨h15_⟩
                  clear BK232
                  clear BK233
                  clear BK234
                  clear BK247
                  clear HB
                  clear h0_ h1_ h2_ h3_ h4_ h5_ h6_ h7_ h8_ h9_ h10_ h11_ h12_ h13_ h14_ h15_
                  have BK232 := n0_
                  have BK233 := n1_
                  have BK234 := n2_
                  have BK247 := n3_
                  have BK260 := n4_
                  have GW260 := n5_
                  have GE260 := n6_
                  have NB232_260 := n7_
                  have NB260_232 := n8_
                  have NB233_260 := n9_
                  have NB260_233 := n10_
                  have NB234_260 := n11_
                  have NB260_234 := n12_
                  have NB247_260 := n13_
                  have NB260_247 := n14_
                  have HB := n15_
                  clear n0_ n1_ n2_ n3_ n4_ n5_ n6_ n7_ n8_ n9_ n10_ n11_ n12_ n13_ n14_ n15_
                  have hHeld : w32.cell? ⟨gb232, 0, none⟩ = some (.bool a1_0) ∧ w32.cell? ⟨gb232, 1, none⟩ = some (.int .i64 a1_1) ∧ w32.cell? ⟨gb232, 2, none⟩ = some (.int .i64 a1_2) ∧ w32.cell? ⟨gb233, 0, none⟩ = some (.bool a2_0) ∧ w32.cell? ⟨gb233, 1, none⟩ = some (.int .i64 a2_1) ∧ w32.cell? ⟨gb233, 2, none⟩ = some (.int .i64 a2_2) ∧ w32.cell? ⟨gb234, 0, none⟩ = some (.bool a3_0) ∧ w32.cell? ⟨gb234, 1, none⟩ = some (.int .i64 a3_1) ∧ w32.cell? ⟨gb234, 2, none⟩ = some (.int .i64 a3_2) := hS_
                  refine norm_ (a' := ?_) ?_ ?_
                  rotate_left
                  · simp only [putAll, Act.put, List.setIfInBounds_toArray, List.set_cons_zero, List.set_cons_succ]
                    rfl
                  refine one_ (i := 4) (N := some 23) #[true, true, true, true, true, true, false, false, true, false] rfl rfl (one_of HT_.out (by kernel_rfl)) (by decide) (fun K hK => ?_)
                  refine goes_ Try.func19 (by kernel_rfl) rfl #[.agg #[.bool a2_0, .int .i64 a2_1, .int .i64 a2_2]] (by rfl) rfl rfl (by (try simp only [List.map_toArray, List.map_cons, List.map_nil]); first | done | rfl | (simp only [List.length_drop, List.length_take]; rfl)) ?_
                  with_reducible refine (laws_toSpan.calls a2_0 a2_1 a2_2 t238 t239 t240 _ A10.out).mono ?_
                  rintro e w33 ⟨rfl, hb⟩
                  refine ⟨_, rfl, ?_⟩
                  have n0_ := Aside0.mk (blk_below (g := gb232) (o := .cells #[.bool a1_0, .int .i64 a1_1, .int .i64 a1_2] 27 (0, 0)) (by (with_reducible repeat (first | refine blk_drewN ?_ _ | refine blk_drew ?_ | refine blk_alloc ?_ _)); exact BK232.out) hb)
                  have n1_ := Aside0.mk (blk_below (g := gb233) (o := .cells #[.bool a2_0, .int .i64 a2_1, .int .i64 a2_2] 27 (0, 0)) (by (with_reducible repeat (first | refine blk_drewN ?_ _ | refine blk_drew ?_ | refine blk_alloc ?_ _)); exact BK233.out) hb)
                  have n2_ := Aside0.mk (blk_below (g := gb234) (o := .cells #[.bool a3_0, .int .i64 a3_1, .int .i64 a3_2] 27 (0, 0)) (by (with_reducible repeat (first | refine blk_drewN ?_ _ | refine blk_drew ?_ | refine blk_alloc ?_ _)); exact BK234.out) hb)
                  have n3_ := Aside0.mk (blk_below (g := gb247) (o := .cells #[.bool t244, .int .i64 t245, .int .i64 t246] 23 (0, 0)) (by (with_reducible repeat (first | refine blk_drewN ?_ _ | refine blk_drew ?_ | refine blk_alloc ?_ _)); exact BK247.out) hb)
                  have n4_ := Aside0.mk (blk_below (g := gb260) (o := .cells #[.bool false, .int .i64 0, .int .i64 0] 23 (0, 0)) (by (with_reducible repeat (first | refine blk_drewN ?_ _ | refine blk_drew ?_ | refine blk_alloc ?_ _)); exact BK260.out) hb)
                  have n5_ := Aside0.mk (below_step (by repeat (first | (with_reducible first | exact HB.out | apply below_alloc | apply pw_below_drewN | apply below_drew1 | refine below_set ?_ GE232.out | refine below_set ?_ GE233.out | refine below_set ?_ GE234.out | refine below_set ?_ GE247.out | refine below_set ?_ GE260.out) | exact HB.out)) hb)
                  clear BK232
                  clear BK233
                  clear BK234
                  clear BK247
                  clear BK260
                  clear HB
                  have BK232 := n0_
                  have BK233 := n1_
                  have BK234 := n2_
                  have BK247 := n3_
                  have BK260 := n4_
                  have HB := n5_
                  clear n0_ n1_ n2_ n3_ n4_ n5_
                  (try clear hb)
                  (try clear hb2)
                  (try clear hk)
                  (try clear hi)
                  refine hK.out _ _ ⟨(blk_cell BK232.out 0).trans rfl, (blk_cell BK232.out 1).trans rfl, (blk_cell BK232.out 2).trans rfl, (blk_cell BK233.out 0).trans rfl, (blk_cell BK233.out 1).trans rfl, (blk_cell BK233.out 2).trans rfl, (blk_cell BK234.out 0).trans rfl, (blk_cell BK234.out 1).trans rfl, (blk_cell BK234.out 2).trans rfl⟩ (fun hHeld => ?_)
                  clear hK K
                  refine norm_ (a' := ?_) ?_ ?_
                  rotate_left
                  · show Act.put _ (some 23) _ = _
                    simp only [Act.put, List.setIfInBounds_toArray, List.set_cons_zero, List.set_cons_succ, i64_w, i32_w]
                    rfl
                  exact norm_ (by first | (simp only [putAll, Act.put, List.setIfInBounds_toArray, List.set_cons_zero, List.set_cons_succ]; done) | (simp only [putAll, Act.put, List.setIfInBounds_toArray, List.set_cons_zero, List.set_cons_succ]; rfl)) (hJ2_4_8 (gb260) _ ⟨hHeld, (by (with_reducible repeat (first | refine blk_drewN ?_ _ | refine blk_drew ?_ | refine blk_alloc ?_ _)); exact BK232.out), (by (with_reducible repeat (first | refine blk_drewN ?_ _ | refine blk_drew ?_ | refine blk_alloc ?_ _)); exact BK233.out), (by (with_reducible repeat (first | refine blk_drewN ?_ _ | refine blk_drew ?_ | refine blk_alloc ?_ _)); exact BK234.out), (by (with_reducible repeat (first | refine blk_drewN ?_ _ | refine blk_drew ?_ | refine blk_alloc ?_ _)); exact BK247.out), (by (with_reducible repeat (first | refine blk_drewN ?_ _ | refine blk_drew ?_ | refine blk_alloc ?_ _)); exact BK260.out), GW260.out, GE260.out, NB232_260.out, NB260_232.out, NB233_260.out, NB260_233.out, NB234_260.out, NB260_234.out, NB247_260.out, NB260_247.out, (by repeat (first | (with_reducible first | exact HB.out | apply below_alloc | apply pw_below_drewN | apply below_drew1 | refine below_set ?_ GE232.out | refine below_set ?_ GE233.out | refine below_set ?_ GE234.out | refine below_set ?_ GE247.out | refine below_set ?_ GE260.out) | exact HB.out))⟩)
              · skip
                rintro _ w32 ⟨hS_, h0_, h1_, h2_, h3_, h4_⟩
                have n0_ : Aside0 (w32.heap[gb232]? = some (.cells #[.bool a1_0, .int .i64 a1_1, .int .i64 a1_2] 27 (0, 0))) := ⟨h0_⟩
                have n1_ : Aside0 (w32.heap[gb233]? = some (.cells #[.bool a2_0, .int .i64 a2_1, .int .i64 a2_2] 27 (0, 0))) := ⟨h1_⟩
                have n2_ : Aside0 (w32.heap[gb234]? = some (.cells #[.bool a3_0, .int .i64 a3_1, .int .i64 a3_2] 27 (0, 0))) := ⟨h2_⟩
                have n3_ : Aside0 (w32.heap[gb247]? = some (.cells #[.bool t244, .int .i64 t245, .int .i64 t246] 23 (0, 0))) := ⟨h3_⟩
                have n4_ : Aside0 (Below w.heap.size w w32) := ⟨h4_⟩
                clear BK232
                clear BK233
                clear BK234
                clear BK247
                clear HB
                clear h0_ h1_ h2_ h3_ h4_
                have BK232 := n0_
                have BK233 := n1_
                have BK234 := n2_
                have BK247 := n3_
                have HB := n4_
                clear n0_ n1_ n2_ n3_ n4_
                have hHeld : w32.cell? ⟨gb232, 0, none⟩ = some (.bool a1_0) ∧ w32.cell? ⟨gb232, 1, none⟩ = some (.int .i64 a1_1) ∧ w32.cell? ⟨gb232, 2, none⟩ = some (.int .i64 a1_2) ∧ w32.cell? ⟨gb233, 0, none⟩ = some (.bool a2_0) ∧ w32.cell? ⟨gb233, 1, none⟩ = some (.int .i64 a2_1) ∧ w32.cell? ⟨gb233, 2, none⟩ = some (.int .i64 a2_2) ∧ w32.cell? ⟨gb234, 0, none⟩ = some (.bool a3_0) ∧ w32.cell? ⟨gb234, 1, none⟩ = some (.int .i64 a3_1) ∧ w32.cell? ⟨gb234, 2, none⟩ = some (.int .i64 a3_2) := hS_
                refine norm_ (a' := ?_) ?_ ?_
                rotate_left
                · simp only [putAll, Act.put, List.setIfInBounds_toArray, List.set_cons_zero, List.set_cons_succ]
                  rfl
                refine two_ (i := 6) (j := 8) (Ni := some 25) (Nj := some 10) #[true, true, true, true, true, true, true, false, false, false] #[true, true, true, true, true, true, false, false, true, false] rfl rfl rfl rfl (two_of HT_.out (by kernel_rfl)) (by decide) (by decide) (fun K hK => ?_) (fun K hK => ?_)
                · skip
                  refine goes_ Try.func19 (by kernel_rfl) rfl #[.agg #[.bool a3_0, .int .i64 a3_1, .int .i64 a3_2]] (by rfl) rfl rfl (by (try simp only [List.map_toArray, List.map_cons, List.map_nil]); first | done | rfl | (simp only [List.length_drop, List.length_take]; rfl)) ?_
                  with_reducible refine (laws_toSpan.calls a3_0 a3_1 a3_2 t241 t242 t243 _ A11.out).mono ?_
                  rintro e w33 ⟨rfl, hb⟩
                  refine ⟨_, rfl, ?_⟩
                  have n0_ := Aside0.mk (blk_below (g := gb232) (o := .cells #[.bool a1_0, .int .i64 a1_1, .int .i64 a1_2] 27 (0, 0)) (by (with_reducible repeat (first | refine blk_drewN ?_ _ | refine blk_drew ?_ | refine blk_alloc ?_ _)); exact BK232.out) hb)
                  have n1_ := Aside0.mk (blk_below (g := gb233) (o := .cells #[.bool a2_0, .int .i64 a2_1, .int .i64 a2_2] 27 (0, 0)) (by (with_reducible repeat (first | refine blk_drewN ?_ _ | refine blk_drew ?_ | refine blk_alloc ?_ _)); exact BK233.out) hb)
                  have n2_ := Aside0.mk (blk_below (g := gb234) (o := .cells #[.bool a3_0, .int .i64 a3_1, .int .i64 a3_2] 27 (0, 0)) (by (with_reducible repeat (first | refine blk_drewN ?_ _ | refine blk_drew ?_ | refine blk_alloc ?_ _)); exact BK234.out) hb)
                  have n3_ := Aside0.mk (blk_below (g := gb247) (o := .cells #[.bool t244, .int .i64 t245, .int .i64 t246] 23 (0, 0)) (by (with_reducible repeat (first | refine blk_drewN ?_ _ | refine blk_drew ?_ | refine blk_alloc ?_ _)); exact BK247.out) hb)
                  have n4_ := Aside0.mk (below_step (by repeat (first | (with_reducible first | exact HB.out | apply below_alloc | apply pw_below_drewN | apply below_drew1 | refine below_set ?_ GE232.out | refine below_set ?_ GE233.out | refine below_set ?_ GE234.out | refine below_set ?_ GE247.out) | exact HB.out)) hb)
                  clear BK232
                  clear BK233
                  clear BK234
                  clear BK247
                  clear HB
                  have BK232 := n0_
                  have BK233 := n1_
                  have BK234 := n2_
                  have BK247 := n3_
                  have HB := n4_
                  clear n0_ n1_ n2_ n3_ n4_
                  (try clear hb)
                  (try clear hb2)
                  (try clear hk)
                  (try clear hi)
                  refine hK.out _ _ ⟨(blk_cell BK232.out 0).trans rfl, (blk_cell BK232.out 1).trans rfl, (blk_cell BK232.out 2).trans rfl, (blk_cell BK233.out 0).trans rfl, (blk_cell BK233.out 1).trans rfl, (blk_cell BK233.out 2).trans rfl, (blk_cell BK234.out 0).trans rfl, (blk_cell BK234.out 1).trans rfl, (blk_cell BK234.out 2).trans rfl⟩ (fun hHeld => ?_)
                  clear hK K
                  refine norm_ (a' := ?_) ?_ ?_
                  rotate_left
                  · show Act.put _ (some 25) _ = _
                    simp only [Act.put, List.setIfInBounds_toArray, List.set_cons_zero, List.set_cons_succ, i64_w, i32_w]
                    rfl
                  exact norm_ (by first | (simp only [putAll, Act.put, List.setIfInBounds_toArray, List.set_cons_zero, List.set_cons_succ]; done) | (simp only [putAll, Act.put, List.setIfInBounds_toArray, List.set_cons_zero, List.set_cons_succ]; rfl)) (hJ2_4_6 () _ ⟨hHeld, (by (with_reducible repeat (first | refine blk_drewN ?_ _ | refine blk_drew ?_ | refine blk_alloc ?_ _)); exact BK232.out), (by (with_reducible repeat (first | refine blk_drewN ?_ _ | refine blk_drew ?_ | refine blk_alloc ?_ _)); exact BK233.out), (by (with_reducible repeat (first | refine blk_drewN ?_ _ | refine blk_drew ?_ | refine blk_alloc ?_ _)); exact BK234.out), (by (with_reducible repeat (first | refine blk_drewN ?_ _ | refine blk_drew ?_ | refine blk_alloc ?_ _)); exact BK247.out), (by repeat (first | (with_reducible first | exact HB.out | apply below_alloc | apply pw_below_drewN | apply below_drew1 | refine below_set ?_ GE232.out | refine below_set ?_ GE233.out | refine below_set ?_ GE234.out | refine below_set ?_ GE247.out) | exact HB.out))⟩)
                · skip
                  refine box_step ?hg (N := 10) ?hd (cs := #[.bool false, .int .i64 0, .int .i64 0]) (t := 23) ?hr ?_; (case hd => rfl); (case hg => rfl); (case hr => first | (go_simp; done) | (go_simp; rfl))
                  intro gb260 hg w33 hbox hb
                  have n0_ := Aside0.mk (blk_below (g := gb232) (o := .cells #[.bool a1_0, .int .i64 a1_1, .int .i64 a1_2] 27 (0, 0)) (by (with_reducible repeat (first | refine blk_drewN ?_ _ | refine blk_drew ?_ | refine blk_alloc ?_ _)); exact BK232.out) hb)
                  have n1_ := Aside0.mk (blk_below (g := gb233) (o := .cells #[.bool a2_0, .int .i64 a2_1, .int .i64 a2_2] 27 (0, 0)) (by (with_reducible repeat (first | refine blk_drewN ?_ _ | refine blk_drew ?_ | refine blk_alloc ?_ _)); exact BK233.out) hb)
                  have n2_ := Aside0.mk (blk_below (g := gb234) (o := .cells #[.bool a3_0, .int .i64 a3_1, .int .i64 a3_2] 27 (0, 0)) (by (with_reducible repeat (first | refine blk_drewN ?_ _ | refine blk_drew ?_ | refine blk_alloc ?_ _)); exact BK234.out) hb)
                  have n3_ := Aside0.mk (blk_below (g := gb247) (o := .cells #[.bool t244, .int .i64 t245, .int .i64 t246] 23 (0, 0)) (by (with_reducible repeat (first | refine blk_drewN ?_ _ | refine blk_drew ?_ | refine blk_alloc ?_ _)); exact BK247.out) hb)
                  have n4_ := Aside0.mk (below_step (by repeat (first | (with_reducible first | exact HB.out | apply below_alloc | apply pw_below_drewN | apply below_drew1 | refine below_set ?_ GE232.out | refine below_set ?_ GE233.out | refine below_set ?_ GE234.out | refine below_set ?_ GE247.out) | exact HB.out)) hb)
                  have n5_ := Aside0.mk (hbox)
                  have n6_ := Aside0.mk ((by rw [hg]; exact (below_size (by repeat (first | (with_reducible first | exact HB.out | apply below_alloc | apply pw_below_drewN | apply below_drew1 | refine below_set ?_ GE232.out | refine below_set ?_ GE233.out | refine below_set ?_ GE234.out | refine below_set ?_ GE247.out) | exact HB.out))) : w.heap.size ≤ gb260))
                  have n7_ := Aside0.mk ((by rw [hg]; exact (below_size (by repeat (first | (with_reducible first | exact HB.out | apply below_alloc | apply pw_below_drewN | apply below_drew1 | refine below_set ?_ GE232.out | refine below_set ?_ GE233.out | refine below_set ?_ GE234.out | refine below_set ?_ GE247.out) | exact HB.out))) : w.heap.size ≤ gb260))
                  have n8_ := Aside0.mk ((by rw [hg]; exact Nat.ne_of_lt (blk_lt (g := gb232) (o := .cells #[.bool a1_0, .int .i64 a1_1, .int .i64 a1_2] 27 (0, 0)) (by (with_reducible repeat (first | refine blk_drewN ?_ _ | refine blk_drew ?_ | refine blk_alloc ?_ _)); exact BK232.out)) : gb232 ≠ gb260))
                  have n9_ := Aside0.mk ((by rw [hg]; exact Nat.ne_of_gt (blk_lt (g := gb232) (o := .cells #[.bool a1_0, .int .i64 a1_1, .int .i64 a1_2] 27 (0, 0)) (by (with_reducible repeat (first | refine blk_drewN ?_ _ | refine blk_drew ?_ | refine blk_alloc ?_ _)); exact BK232.out)) : gb260 ≠ gb232))
                  have n10_ := Aside0.mk ((by rw [hg]; exact Nat.ne_of_lt (blk_lt (g := gb233) (o := .cells #[.bool a2_0, .int .i64 a2_1, .int .i64 a2_2] 27 (0, 0)) (by (with_reducible repeat (first | refine blk_drewN ?_ _ | refine blk_drew ?_ | refine blk_alloc ?_ _)); exact BK233.out)) : gb233 ≠ gb260))
                  have n11_ := Aside0.mk ((by rw [hg]; exact Nat.ne_of_gt (blk_lt (g := gb233) (o := .cells #[.bool a2_0, .int .i64 a2_1, .int .i64 a2_2] 27 (0, 0)) (by (with_reducible repeat (first | refine blk_drewN ?_ _ | refine blk_drew ?_ | refine blk_alloc ?_ _)); exact BK233.out)) : gb260 ≠ gb233))
                  have n12_ := Aside0.mk ((by rw [hg]; exact Nat.ne_of_lt (blk_lt (g := gb234) (o := .cells #[.bool a3_0, .int .i64 a3_1, .int .i64 a3_2] 27 (0, 0)) (by (with_reducible repeat (first | refine blk_drewN ?_ _ | refine blk_drew ?_ | refine blk_alloc ?_ _)); exact BK234.out)) : gb234 ≠ gb260))
                  have n13_ := Aside0.mk ((by rw [hg]; exact Nat.ne_of_gt (blk_lt (g := gb234) (o := .cells #[.bool a3_0, .int .i64 a3_1, .int .i64 a3_2] 27 (0, 0)) (by (with_reducible repeat (first | refine blk_drewN ?_ _ | refine blk_drew ?_ | refine blk_alloc ?_ _)); exact BK234.out)) : gb260 ≠ gb234))
                  have n14_ := Aside0.mk ((by rw [hg]; exact Nat.ne_of_lt (blk_lt (g := gb247) (o := .cells #[.bool t244, .int .i64 t245, .int .i64 t246] 23 (0, 0)) (by (with_reducible repeat (first | refine blk_drewN ?_ _ | refine blk_drew ?_ | refine blk_alloc ?_ _)); exact BK247.out)) : gb247 ≠ gb260))
                  have n15_ := Aside0.mk ((by rw [hg]; exact Nat.ne_of_gt (blk_lt (g := gb247) (o := .cells #[.bool t244, .int .i64 t245, .int .i64 t246] 23 (0, 0)) (by (with_reducible repeat (first | refine blk_drewN ?_ _ | refine blk_drew ?_ | refine blk_alloc ?_ _)); exact BK247.out)) : gb260 ≠ gb247))
                  clear BK232
                  clear BK233
                  clear BK234
                  clear BK247
                  clear HB
                  have BK232 := n0_
                  have BK233 := n1_
                  have BK234 := n2_
                  have BK247 := n3_
                  have HB := n4_
                  have BK260 := n5_
                  have GW260 := n6_
                  have GE260 := n7_
                  have NB232_260 := n8_
                  have NB260_232 := n9_
                  have NB233_260 := n10_
                  have NB260_233 := n11_
                  have NB234_260 := n12_
                  have NB260_234 := n13_
                  have NB247_260 := n14_
                  have NB260_247 := n15_
                  clear n0_ n1_ n2_ n3_ n4_ n5_ n6_ n7_ n8_ n9_ n10_ n11_ n12_ n13_ n14_ n15_
                  clear hb hbox hg
                  refine hK.out _ _ ⟨(blk_cell BK232.out 0).trans rfl, (blk_cell BK232.out 1).trans rfl, (blk_cell BK232.out 2).trans rfl, (blk_cell BK233.out 0).trans rfl, (blk_cell BK233.out 1).trans rfl, (blk_cell BK233.out 2).trans rfl, (blk_cell BK234.out 0).trans rfl, (blk_cell BK234.out 1).trans rfl, (blk_cell BK234.out 2).trans rfl⟩ (fun hHeld => ?_)
                  clear hK K
                  refine norm_ (a' := ?_) ?_ ?_
                  rotate_left
                  · show Act.put _ (some 10) _ = _
                    simp only [Act.put, List.setIfInBounds_toArray, List.set_cons_zero, List.set_cons_succ, i64_w, i32_w]
                    rfl
                  exact norm_ (by first | (simp only [putAll, Act.put, List.setIfInBounds_toArray, List.set_cons_zero, List.set_cons_succ]; done) | (simp only [putAll, Act.put, List.setIfInBounds_toArray, List.set_cons_zero, List.set_cons_succ]; rfl)) (hJ2_4_8 (gb260) _ ⟨hHeld, (by (with_reducible repeat (first | refine blk_drewN ?_ _ | refine blk_drew ?_ | refine blk_alloc ?_ _)); exact BK232.out), (by (with_reducible repeat (first | refine blk_drewN ?_ _ | refine blk_drew ?_ | refine blk_alloc ?_ _)); exact BK233.out), (by (with_reducible repeat (first | refine blk_drewN ?_ _ | refine blk_drew ?_ | refine blk_alloc ?_ _)); exact BK234.out), (by (with_reducible repeat (first | refine blk_drewN ?_ _ | refine blk_drew ?_ | refine blk_alloc ?_ _)); exact BK247.out), (by (with_reducible repeat (first | refine blk_drewN ?_ _ | refine blk_drew ?_ | refine blk_alloc ?_ _)); exact BK260.out), GW260.out, GE260.out, NB232_260.out, NB260_232.out, NB233_260.out, NB260_233.out, NB234_260.out, NB260_234.out, NB247_260.out, NB260_247.out, (by repeat (first | (with_reducible first | exact HB.out | apply below_alloc | apply pw_below_drewN | apply below_drew1 | refine below_set ?_ GE232.out | refine below_set ?_ GE233.out | refine below_set ?_ GE234.out | refine below_set ?_ GE247.out | refine below_set ?_ GE260.out) | exact HB.out))⟩)
            · skip
              rintro gb260 w33 ⟨hS_, h0_, h1_, h2_, h3_, h4_, h5_, h6_, h7_, h8_, h9_, h10_, h11_, h12_, h13_, h14_, h15_⟩
              have n0_ : Aside0 (w33.heap[gb232]? = some (.cells #[.bool a1_0, .int .i64 a1_1, .int .i64 a1_2] 27 (0, 0))) := ⟨h0_⟩
              have n1_ : Aside0 (w33.heap[gb233]? = some (.cells #[.bool a2_0, .int .i64 a2_1, .int .i64 a2_2] 27 (0, 0))) := ⟨h1_⟩
              have n2_ : Aside0 (w33.heap[gb234]? = some (.cells #[.bool a3_0, .int .i64 a3_1, .int .i64 a3_2] 27 (0, 0))) := ⟨h2_⟩
              have n3_ : Aside0 (w33.heap[gb247]? = some (.cells #[.bool t244, .int .i64 t245, .int .i64 t246] 23 (0, 0))) := ⟨h3_⟩
              have n4_ : Aside0 (w33.heap[gb260]? = some (.cells #[.bool false, .int .i64 0, .int .i64 0] 23 (0, 0))) := ⟨h4_⟩
              have n5_ : Aside0 (w.heap.size ≤ gb260) := ⟨h5_⟩
              have n6_ : Aside0 (w.heap.size ≤ gb260) := ⟨h6_⟩
              have n7_ : Aside0 (gb232 ≠ gb260) := ⟨h7_⟩
              have n8_ : Aside0 (gb260 ≠ gb232) := ⟨h8_⟩
              have n9_ : Aside0 (gb233 ≠ gb260) := ⟨h9_⟩
              have n10_ : Aside0 (gb260 ≠ gb233) := ⟨h10_⟩
              have n11_ : Aside0 (gb234 ≠ gb260) := ⟨h11_⟩
              have n12_ : Aside0 (gb260 ≠ gb234) := ⟨h12_⟩
              have n13_ : Aside0 (gb247 ≠ gb260) := ⟨h13_⟩
              have n14_ : Aside0 (gb260 ≠ gb247) := ⟨h14_⟩
              have n15_ : Aside0 (Below w.heap.size w w33) := ⟨h15_⟩
              clear BK232
              clear BK233
              clear BK234
              clear BK247
              clear HB
              clear h0_ h1_ h2_ h3_ h4_ h5_ h6_ h7_ h8_ h9_ h10_ h11_ h12_ h13_ h14_ h15_
              have BK232 := n0_
              have BK233 := n1_
              have BK234 := n2_
              have BK247 := n3_
              have BK260 := n4_
              have GW260 := n5_
              have GE260 := n6_
              have NB232_260 := n7_
              have NB260_232 := n8_
              have NB233_260 := n9_
              have NB260_233 := n10_
              have NB234_260 := n11_
              have NB260_234 := n12_
              have NB247_260 := n13_
              have NB260_247 := n14_
              have HB := n15_
              clear n0_ n1_ n2_ n3_ n4_ n5_ n6_ n7_ n8_ n9_ n10_ n11_ n12_ n13_ n14_ n15_
              have hHeld : w33.cell? ⟨gb232, 0, none⟩ = some (.bool a1_0) ∧ w33.cell? ⟨gb232, 1, none⟩ = some (.int .i64 a1_1) ∧ w33.cell? ⟨gb232, 2, none⟩ = some (.int .i64 a1_2) ∧ w33.cell? ⟨gb233, 0, none⟩ = some (.bool a2_0) ∧ w33.cell? ⟨gb233, 1, none⟩ = some (.int .i64 a2_1) ∧ w33.cell? ⟨gb233, 2, none⟩ = some (.int .i64 a2_2) ∧ w33.cell? ⟨gb234, 0, none⟩ = some (.bool a3_0) ∧ w33.cell? ⟨gb234, 1, none⟩ = some (.int .i64 a3_1) ∧ w33.cell? ⟨gb234, 2, none⟩ = some (.int .i64 a3_2) := hS_
              refine norm_ (a' := ?_) ?_ ?_
              rotate_left
              · simp only [putAll, Act.put, List.setIfInBounds_toArray, List.set_cons_zero, List.set_cons_succ]
                rfl
              refine one_ (i := 6) (N := some 25) #[true, true, true, true, true, true, true, false, true, false] rfl rfl (one_of HT_.out (by kernel_rfl)) (by decide) (fun K hK => ?_)
              refine goes_ Try.func19 (by kernel_rfl) rfl #[.agg #[.bool a3_0, .int .i64 a3_1, .int .i64 a3_2]] (by rfl) rfl rfl (by (try simp only [List.map_toArray, List.map_cons, List.map_nil]); first | done | rfl | (simp only [List.length_drop, List.length_take]; rfl)) ?_
              with_reducible refine (laws_toSpan.calls a3_0 a3_1 a3_2 t241 t242 t243 _ A11.out).mono ?_
              rintro e w34 ⟨rfl, hb⟩
              refine ⟨_, rfl, ?_⟩
              have n0_ := Aside0.mk (blk_below (g := gb232) (o := .cells #[.bool a1_0, .int .i64 a1_1, .int .i64 a1_2] 27 (0, 0)) (by (with_reducible repeat (first | refine blk_drewN ?_ _ | refine blk_drew ?_ | refine blk_alloc ?_ _)); exact BK232.out) hb)
              have n1_ := Aside0.mk (blk_below (g := gb233) (o := .cells #[.bool a2_0, .int .i64 a2_1, .int .i64 a2_2] 27 (0, 0)) (by (with_reducible repeat (first | refine blk_drewN ?_ _ | refine blk_drew ?_ | refine blk_alloc ?_ _)); exact BK233.out) hb)
              have n2_ := Aside0.mk (blk_below (g := gb234) (o := .cells #[.bool a3_0, .int .i64 a3_1, .int .i64 a3_2] 27 (0, 0)) (by (with_reducible repeat (first | refine blk_drewN ?_ _ | refine blk_drew ?_ | refine blk_alloc ?_ _)); exact BK234.out) hb)
              have n3_ := Aside0.mk (blk_below (g := gb247) (o := .cells #[.bool t244, .int .i64 t245, .int .i64 t246] 23 (0, 0)) (by (with_reducible repeat (first | refine blk_drewN ?_ _ | refine blk_drew ?_ | refine blk_alloc ?_ _)); exact BK247.out) hb)
              have n4_ := Aside0.mk (blk_below (g := gb260) (o := .cells #[.bool false, .int .i64 0, .int .i64 0] 23 (0, 0)) (by (with_reducible repeat (first | refine blk_drewN ?_ _ | refine blk_drew ?_ | refine blk_alloc ?_ _)); exact BK260.out) hb)
              have n5_ := Aside0.mk (below_step (by repeat (first | (with_reducible first | exact HB.out | apply below_alloc | apply pw_below_drewN | apply below_drew1 | refine below_set ?_ GE232.out | refine below_set ?_ GE233.out | refine below_set ?_ GE234.out | refine below_set ?_ GE247.out | refine below_set ?_ GE260.out) | exact HB.out)) hb)
              clear BK232
              clear BK233
              clear BK234
              clear BK247
              clear BK260
              clear HB
              have BK232 := n0_
              have BK233 := n1_
              have BK234 := n2_
              have BK247 := n3_
              have BK260 := n4_
              have HB := n5_
              clear n0_ n1_ n2_ n3_ n4_ n5_
              (try clear hb)
              (try clear hb2)
              (try clear hk)
              (try clear hi)
              refine hK.out _ _ ⟨(blk_cell BK232.out 0).trans rfl, (blk_cell BK232.out 1).trans rfl, (blk_cell BK232.out 2).trans rfl, (blk_cell BK233.out 0).trans rfl, (blk_cell BK233.out 1).trans rfl, (blk_cell BK233.out 2).trans rfl, (blk_cell BK234.out 0).trans rfl, (blk_cell BK234.out 1).trans rfl, (blk_cell BK234.out 2).trans rfl⟩ (fun hHeld => ?_)
              clear hK K
              refine norm_ (a' := ?_) ?_ ?_
              rotate_left
              · show Act.put _ (some 25) _ = _
                simp only [Act.put, List.setIfInBounds_toArray, List.set_cons_zero, List.set_cons_succ, i64_w, i32_w]
                rfl
              exact norm_ (by first | (simp only [putAll, Act.put, List.setIfInBounds_toArray, List.set_cons_zero, List.set_cons_succ]; done) | (simp only [putAll, Act.put, List.setIfInBounds_toArray, List.set_cons_zero, List.set_cons_succ]; rfl)) (hJ2_4_6_8 (gb260) _ ⟨hHeld, (by (with_reducible repeat (first | refine blk_drewN ?_ _ | refine blk_drew ?_ | refine blk_alloc ?_ _)); exact BK232.out), (by (with_reducible repeat (first | refine blk_drewN ?_ _ | refine blk_drew ?_ | refine blk_alloc ?_ _)); exact BK233.out), (by (with_reducible repeat (first | refine blk_drewN ?_ _ | refine blk_drew ?_ | refine blk_alloc ?_ _)); exact BK234.out), (by (with_reducible repeat (first | refine blk_drewN ?_ _ | refine blk_drew ?_ | refine blk_alloc ?_ _)); exact BK247.out), (by (with_reducible repeat (first | refine blk_drewN ?_ _ | refine blk_drew ?_ | refine blk_alloc ?_ _)); exact BK260.out), GW260.out, GE260.out, NB232_260.out, NB260_232.out, NB233_260.out, NB260_233.out, NB234_260.out, NB260_234.out, NB247_260.out, NB260_247.out, (by repeat (first | (with_reducible first | exact HB.out | apply below_alloc | apply pw_below_drewN | apply below_drew1 | refine below_set ?_ GE232.out | refine below_set ?_ GE233.out | refine below_set ?_ GE234.out | refine below_set ?_ GE247.out | refine below_set ?_ GE260.out) | exact HB.out))⟩)
          · skip
            rintro _ w33 ⟨hS_, h0_, h1_, h2_, h3_, h4_⟩
            have n0_ : Aside0 (w33.heap[gb232]? = some (.cells #[.bool a1_0, .int .i64 a1_1, .int .i64 a1_2] 27 (0, 0))) := ⟨h0_⟩
            have n1_ : Aside0 (w33.heap[gb233]? = some (.cells #[.bool a2_0, .int .i64 a2_1, .int .i64 a2_2] 27 (0, 0))) := ⟨h1_⟩
            have n2_ : Aside0 (w33.heap[gb234]? = some (.cells #[.bool a3_0, .int .i64 a3_1, .int .i64 a3_2] 27 (0, 0))) := ⟨h2_⟩
            have n3_ : Aside0 (w33.heap[gb247]? = some (.cells #[.bool t244, .int .i64 t245, .int .i64 t246] 23 (0, 0))) := ⟨h3_⟩
            have n4_ : Aside0 (Below w.heap.size w w33) := ⟨h4_⟩
            clear BK232
            clear BK233
            clear BK234
            clear BK247
            clear HB
            clear h0_ h1_ h2_ h3_ h4_
            have BK232 := n0_
            have BK233 := n1_
            have BK234 := n2_
            have BK247 := n3_
            have HB := n4_
            clear n0_ n1_ n2_ n3_ n4_
            have hHeld : w33.cell? ⟨gb232, 0, none⟩ = some (.bool a1_0) ∧ w33.cell? ⟨gb232, 1, none⟩ = some (.int .i64 a1_1) ∧ w33.cell? ⟨gb232, 2, none⟩ = some (.int .i64 a1_2) ∧ w33.cell? ⟨gb233, 0, none⟩ = some (.bool a2_0) ∧ w33.cell? ⟨gb233, 1, none⟩ = some (.int .i64 a2_1) ∧ w33.cell? ⟨gb233, 2, none⟩ = some (.int .i64 a2_2) ∧ w33.cell? ⟨gb234, 0, none⟩ = some (.bool a3_0) ∧ w33.cell? ⟨gb234, 1, none⟩ = some (.int .i64 a3_1) ∧ w33.cell? ⟨gb234, 2, none⟩ = some (.int .i64 a3_2) := hS_
            refine norm_ (a' := ?_) ?_ ?_
            rotate_left
            · simp only [putAll, Act.put, List.setIfInBounds_toArray, List.set_cons_zero, List.set_cons_succ]
              rfl
            refine two_ (i := 7) (j := 8) (Ni := some 26) (Nj := some 10) #[true, true, true, true, true, true, true, true, false, false] #[true, true, true, true, true, true, true, false, true, false] rfl rfl rfl rfl (two_of HT_.out (by kernel_rfl)) (by decide) (by decide) (fun K hK => ?_) (fun K hK => ?_)
            · skip
              refine goes_ Try.func34 (by kernel_rfl) rfl #[.int .i64 a0, .agg #[.bool t235, .int .i64 t236, .int .i64 t237], .agg #[.bool t238, .int .i64 t239, .int .i64 t240], .agg #[.bool t241, .int .i64 t242, .int .i64 t243]] (by rfl) rfl rfl (by (try simp only [List.map_toArray, List.map_cons, List.map_nil]); first | done | rfl | (simp only [List.length_drop, List.length_take]; rfl)) ?_
              with_reducible refine (impl_BackMin.calls k a0 t235 t236 t237 t238 t239 t240 t241 t242 t243 t257 t258 t259 _ A12.out).mono ?_
              rintro e w34 ⟨rfl, hb⟩
              refine ⟨_, rfl, ?_⟩
              have n0_ := Aside0.mk (blk_below (g := gb232) (o := .cells #[.bool a1_0, .int .i64 a1_1, .int .i64 a1_2] 27 (0, 0)) (by (with_reducible repeat (first | refine blk_drewN ?_ _ | refine blk_drew ?_ | refine blk_alloc ?_ _)); exact BK232.out) hb)
              have n1_ := Aside0.mk (blk_below (g := gb233) (o := .cells #[.bool a2_0, .int .i64 a2_1, .int .i64 a2_2] 27 (0, 0)) (by (with_reducible repeat (first | refine blk_drewN ?_ _ | refine blk_drew ?_ | refine blk_alloc ?_ _)); exact BK233.out) hb)
              have n2_ := Aside0.mk (blk_below (g := gb234) (o := .cells #[.bool a3_0, .int .i64 a3_1, .int .i64 a3_2] 27 (0, 0)) (by (with_reducible repeat (first | refine blk_drewN ?_ _ | refine blk_drew ?_ | refine blk_alloc ?_ _)); exact BK234.out) hb)
              have n3_ := Aside0.mk (blk_below (g := gb247) (o := .cells #[.bool t244, .int .i64 t245, .int .i64 t246] 23 (0, 0)) (by (with_reducible repeat (first | refine blk_drewN ?_ _ | refine blk_drew ?_ | refine blk_alloc ?_ _)); exact BK247.out) hb)
              have n4_ := Aside0.mk (below_step (by repeat (first | (with_reducible first | exact HB.out | apply below_alloc | apply pw_below_drewN | apply below_drew1 | refine below_set ?_ GE232.out | refine below_set ?_ GE233.out | refine below_set ?_ GE234.out | refine below_set ?_ GE247.out) | exact HB.out)) hb)
              clear BK232
              clear BK233
              clear BK234
              clear BK247
              clear HB
              have BK232 := n0_
              have BK233 := n1_
              have BK234 := n2_
              have BK247 := n3_
              have HB := n4_
              clear n0_ n1_ n2_ n3_ n4_
              (try clear hb)
              (try clear hb2)
              (try clear hk)
              (try clear hi)
              refine hK.out _ _ ⟨(blk_cell BK232.out 0).trans rfl, (blk_cell BK232.out 1).trans rfl, (blk_cell BK232.out 2).trans rfl, (blk_cell BK233.out 0).trans rfl, (blk_cell BK233.out 1).trans rfl, (blk_cell BK233.out 2).trans rfl, (blk_cell BK234.out 0).trans rfl, (blk_cell BK234.out 1).trans rfl, (blk_cell BK234.out 2).trans rfl⟩ (fun hHeld => ?_)
              clear hK K
              refine norm_ (a' := ?_) ?_ ?_
              rotate_left
              · show Act.put _ (some 26) _ = _
                simp only [Act.put, List.setIfInBounds_toArray, List.set_cons_zero, List.set_cons_succ, i64_w, i32_w]
                rfl
              exact norm_ (by first | (simp only [putAll, Act.put, List.setIfInBounds_toArray, List.set_cons_zero, List.set_cons_succ]; done) | (simp only [putAll, Act.put, List.setIfInBounds_toArray, List.set_cons_zero, List.set_cons_succ]; rfl)) (hJ2_4_6_7 () _ ⟨hHeld, (by (with_reducible repeat (first | refine blk_drewN ?_ _ | refine blk_drew ?_ | refine blk_alloc ?_ _)); exact BK232.out), (by (with_reducible repeat (first | refine blk_drewN ?_ _ | refine blk_drew ?_ | refine blk_alloc ?_ _)); exact BK233.out), (by (with_reducible repeat (first | refine blk_drewN ?_ _ | refine blk_drew ?_ | refine blk_alloc ?_ _)); exact BK234.out), (by (with_reducible repeat (first | refine blk_drewN ?_ _ | refine blk_drew ?_ | refine blk_alloc ?_ _)); exact BK247.out), (by repeat (first | (with_reducible first | exact HB.out | apply below_alloc | apply pw_below_drewN | apply below_drew1 | refine below_set ?_ GE232.out | refine below_set ?_ GE233.out | refine below_set ?_ GE234.out | refine below_set ?_ GE247.out) | exact HB.out))⟩)
            · skip
              refine box_step ?hg (N := 10) ?hd (cs := #[.bool false, .int .i64 0, .int .i64 0]) (t := 23) ?hr ?_; (case hd => rfl); (case hg => rfl); (case hr => first | (go_simp; done) | (go_simp; rfl))
              intro gb260 hg w34 hbox hb
              have n0_ := Aside0.mk (blk_below (g := gb232) (o := .cells #[.bool a1_0, .int .i64 a1_1, .int .i64 a1_2] 27 (0, 0)) (by (with_reducible repeat (first | refine blk_drewN ?_ _ | refine blk_drew ?_ | refine blk_alloc ?_ _)); exact BK232.out) hb)
              have n1_ := Aside0.mk (blk_below (g := gb233) (o := .cells #[.bool a2_0, .int .i64 a2_1, .int .i64 a2_2] 27 (0, 0)) (by (with_reducible repeat (first | refine blk_drewN ?_ _ | refine blk_drew ?_ | refine blk_alloc ?_ _)); exact BK233.out) hb)
              have n2_ := Aside0.mk (blk_below (g := gb234) (o := .cells #[.bool a3_0, .int .i64 a3_1, .int .i64 a3_2] 27 (0, 0)) (by (with_reducible repeat (first | refine blk_drewN ?_ _ | refine blk_drew ?_ | refine blk_alloc ?_ _)); exact BK234.out) hb)
              have n3_ := Aside0.mk (blk_below (g := gb247) (o := .cells #[.bool t244, .int .i64 t245, .int .i64 t246] 23 (0, 0)) (by (with_reducible repeat (first | refine blk_drewN ?_ _ | refine blk_drew ?_ | refine blk_alloc ?_ _)); exact BK247.out) hb)
              have n4_ := Aside0.mk (below_step (by repeat (first | (with_reducible first | exact HB.out | apply below_alloc | apply pw_below_drewN | apply below_drew1 | refine below_set ?_ GE232.out | refine below_set ?_ GE233.out | refine below_set ?_ GE234.out | refine below_set ?_ GE247.out) | exact HB.out)) hb)
              have n5_ := Aside0.mk (hbox)
              have n6_ := Aside0.mk ((by rw [hg]; exact (below_size (by repeat (first | (with_reducible first | exact HB.out | apply below_alloc | apply pw_below_drewN | apply below_drew1 | refine below_set ?_ GE232.out | refine below_set ?_ GE233.out | refine below_set ?_ GE234.out | refine below_set ?_ GE247.out) | exact HB.out))) : w.heap.size ≤ gb260))
              have n7_ := Aside0.mk ((by rw [hg]; exact (below_size (by repeat (first | (with_reducible first | exact HB.out | apply below_alloc | apply pw_below_drewN | apply below_drew1 | refine below_set ?_ GE232.out | refine below_set ?_ GE233.out | refine below_set ?_ GE234.out | refine below_set ?_ GE247.out) | exact HB.out))) : w.heap.size ≤ gb260))
              have n8_ := Aside0.mk ((by rw [hg]; exact Nat.ne_of_lt (blk_lt (g := gb232) (o := .cells #[.bool a1_0, .int .i64 a1_1, .int .i64 a1_2] 27 (0, 0)) (by (with_reducible repeat (first | refine blk_drewN ?_ _ | refine blk_drew ?_ | refine blk_alloc ?_ _)); exact BK232.out)) : gb232 ≠ gb260))
              have n9_ := Aside0.mk ((by rw [hg]; exact Nat.ne_of_gt (blk_lt (g := gb232) (o := .cells #[.bool a1_0, .int .i64 a1_1, .int .i64 a1_2] 27 (0, 0)) (by (with_reducible repeat (first | refine blk_drewN ?_ _ | refine blk_drew ?_ | refine blk_alloc ?_ _)); exact BK232.out)) : gb260 ≠ gb232))
              have n10_ := Aside0.mk ((by rw [hg]; exact Nat.ne_of_lt (blk_lt (g := gb233) (o := .cells #[.bool a2_0, .int .i64 a2_1, .int .i64 a2_2] 27 (0, 0)) (by (with_reducible repeat (first | refine blk_drewN ?_ _ | refine blk_drew ?_ | refine blk_alloc ?_ _)); exact BK233.out)) : gb233 ≠ gb260))
              have n11_ := Aside0.mk ((by rw [hg]; exact Nat.ne_of_gt (blk_lt (g := gb233) (o := .cells #[.bool a2_0, .int .i64 a2_1, .int .i64 a2_2] 27 (0, 0)) (by (with_reducible repeat (first | refine blk_drewN ?_ _ | refine blk_drew ?_ | refine blk_alloc ?_ _)); exact BK233.out)) : gb260 ≠ gb233))
              have n12_ := Aside0.mk ((by rw [hg]; exact Nat.ne_of_lt (blk_lt (g := gb234) (o := .cells #[.bool a3_0, .int .i64 a3_1, .int .i64 a3_2] 27 (0, 0)) (by (with_reducible repeat (first | refine blk_drewN ?_ _ | refine blk_drew ?_ | refine blk_alloc ?_ _)); exact BK234.out)) : gb234 ≠ gb260))
              have n13_ := Aside0.mk ((by rw [hg]; exact Nat.ne_of_gt (blk_lt (g := gb234) (o := .cells #[.bool a3_0, .int .i64 a3_1, .int .i64 a3_2] 27 (0, 0)) (by (with_reducible repeat (first | refine blk_drewN ?_ _ | refine blk_drew ?_ | refine blk_alloc ?_ _)); exact BK234.out)) : gb260 ≠ gb234))
              have n14_ := Aside0.mk ((by rw [hg]; exact Nat.ne_of_lt (blk_lt (g := gb247) (o := .cells #[.bool t244, .int .i64 t245, .int .i64 t246] 23 (0, 0)) (by (with_reducible repeat (first | refine blk_drewN ?_ _ | refine blk_drew ?_ | refine blk_alloc ?_ _)); exact BK247.out)) : gb247 ≠ gb260))
              have n15_ := Aside0.mk ((by rw [hg]; exact Nat.ne_of_gt (blk_lt (g := gb247) (o := .cells #[.bool t244, .int .i64 t245, .int .i64 t246] 23 (0, 0)) (by (with_reducible repeat (first | refine blk_drewN ?_ _ | refine blk_drew ?_ | refine blk_alloc ?_ _)); exact BK247.out)) : gb260 ≠ gb247))
              clear BK232
              clear BK233
              clear BK234
              clear BK247
              clear HB
              have BK232 := n0_
              have BK233 := n1_
              have BK234 := n2_
              have BK247 := n3_
              have HB := n4_
              have BK260 := n5_
              have GW260 := n6_
              have GE260 := n7_
              have NB232_260 := n8_
              have NB260_232 := n9_
              have NB233_260 := n10_
              have NB260_233 := n11_
              have NB234_260 := n12_
              have NB260_234 := n13_
              have NB247_260 := n14_
              have NB260_247 := n15_
              clear n0_ n1_ n2_ n3_ n4_ n5_ n6_ n7_ n8_ n9_ n10_ n11_ n12_ n13_ n14_ n15_
              clear hb hbox hg
              refine hK.out _ _ ⟨(blk_cell BK232.out 0).trans rfl, (blk_cell BK232.out 1).trans rfl, (blk_cell BK232.out 2).trans rfl, (blk_cell BK233.out 0).trans rfl, (blk_cell BK233.out 1).trans rfl, (blk_cell BK233.out 2).trans rfl, (blk_cell BK234.out 0).trans rfl, (blk_cell BK234.out 1).trans rfl, (blk_cell BK234.out 2).trans rfl⟩ (fun hHeld => ?_)
              clear hK K
              refine norm_ (a' := ?_) ?_ ?_
              rotate_left
              · show Act.put _ (some 10) _ = _
                simp only [Act.put, List.setIfInBounds_toArray, List.set_cons_zero, List.set_cons_succ, i64_w, i32_w]
                rfl
              exact norm_ (by first | (simp only [putAll, Act.put, List.setIfInBounds_toArray, List.set_cons_zero, List.set_cons_succ]; done) | (simp only [putAll, Act.put, List.setIfInBounds_toArray, List.set_cons_zero, List.set_cons_succ]; rfl)) (hJ2_4_6_8 (gb260) _ ⟨hHeld, (by (with_reducible repeat (first | refine blk_drewN ?_ _ | refine blk_drew ?_ | refine blk_alloc ?_ _)); exact BK232.out), (by (with_reducible repeat (first | refine blk_drewN ?_ _ | refine blk_drew ?_ | refine blk_alloc ?_ _)); exact BK233.out), (by (with_reducible repeat (first | refine blk_drewN ?_ _ | refine blk_drew ?_ | refine blk_alloc ?_ _)); exact BK234.out), (by (with_reducible repeat (first | refine blk_drewN ?_ _ | refine blk_drew ?_ | refine blk_alloc ?_ _)); exact BK247.out), (by (with_reducible repeat (first | refine blk_drewN ?_ _ | refine blk_drew ?_ | refine blk_alloc ?_ _)); exact BK260.out), GW260.out, GE260.out, NB232_260.out, NB260_232.out, NB233_260.out, NB260_233.out, NB234_260.out, NB260_234.out, NB247_260.out, NB260_247.out, (by repeat (first | (with_reducible first | exact HB.out | apply below_alloc | apply pw_below_drewN | apply below_drew1 | refine below_set ?_ GE232.out | refine below_set ?_ GE233.out | refine below_set ?_ GE234.out | refine below_set ?_ GE247.out | refine below_set ?_ GE260.out) | exact HB.out))⟩)
        · skip
          rintro gb260 w34 ⟨hS_, h0_, h1_, h2_, h3_, h4_, h5_, h6_, h7_, h8_, h9_, h10_, h11_, h12_, h13_, h14_, h15_⟩
          have n0_ : Aside0 (w34.heap[gb232]? = some (.cells #[.bool a1_0, .int .i64 a1_1, .int .i64 a1_2] 27 (0, 0))) := ⟨h0_⟩
          have n1_ : Aside0 (w34.heap[gb233]? = some (.cells #[.bool a2_0, .int .i64 a2_1, .int .i64 a2_2] 27 (0, 0))) := ⟨h1_⟩
          have n2_ : Aside0 (w34.heap[gb234]? = some (.cells #[.bool a3_0, .int .i64 a3_1, .int .i64 a3_2] 27 (0, 0))) := ⟨h2_⟩
          have n3_ : Aside0 (w34.heap[gb247]? = some (.cells #[.bool t244, .int .i64 t245, .int .i64 t246] 23 (0, 0))) := ⟨h3_⟩
          have n4_ : Aside0 (w34.heap[gb260]? = some (.cells #[.bool false, .int .i64 0, .int .i64 0] 23 (0, 0))) := ⟨h4_⟩
          have n5_ : Aside0 (w.heap.size ≤ gb260) := ⟨h5_⟩
          have n6_ : Aside0 (w.heap.size ≤ gb260) := ⟨h6_⟩
          have n7_ : Aside0 (gb232 ≠ gb260) := ⟨h7_⟩
          have n8_ : Aside0 (gb260 ≠ gb232) := ⟨h8_⟩
          have n9_ : Aside0 (gb233 ≠ gb260) := ⟨h9_⟩
          have n10_ : Aside0 (gb260 ≠ gb233) := ⟨h10_⟩
          have n11_ : Aside0 (gb234 ≠ gb260) := ⟨h11_⟩
          have n12_ : Aside0 (gb260 ≠ gb234) := ⟨h12_⟩
          have n13_ : Aside0 (gb247 ≠ gb260) := ⟨h13_⟩
          have n14_ : Aside0 (gb260 ≠ gb247) := ⟨h14_⟩
          have n15_ : Aside0 (Below w.heap.size w w34) := ⟨h15_⟩
          clear BK232
          clear BK233
          clear BK234
          clear BK247
          clear HB
          clear h0_ h1_ h2_ h3_ h4_ h5_ h6_ h7_ h8_ h9_ h10_ h11_ h12_ h13_ h14_ h15_
          have BK232 := n0_
          have BK233 := n1_
          have BK234 := n2_
          have BK247 := n3_
          have BK260 := n4_
          have GW260 := n5_
          have GE260 := n6_
          have NB232_260 := n7_
          have NB260_232 := n8_
          have NB233_260 := n9_
          have NB260_233 := n10_
          have NB234_260 := n11_
          have NB260_234 := n12_
          have NB247_260 := n13_
          have NB260_247 := n14_
          have HB := n15_
          clear n0_ n1_ n2_ n3_ n4_ n5_ n6_ n7_ n8_ n9_ n10_ n11_ n12_ n13_ n14_ n15_
          have hHeld : w34.cell? ⟨gb232, 0, none⟩ = some (.bool a1_0) ∧ w34.cell? ⟨gb232, 1, none⟩ = some (.int .i64 a1_1) ∧ w34.cell? ⟨gb232, 2, none⟩ = some (.int .i64 a1_2) ∧ w34.cell? ⟨gb233, 0, none⟩ = some (.bool a2_0) ∧ w34.cell? ⟨gb233, 1, none⟩ = some (.int .i64 a2_1) ∧ w34.cell? ⟨gb233, 2, none⟩ = some (.int .i64 a2_2) ∧ w34.cell? ⟨gb234, 0, none⟩ = some (.bool a3_0) ∧ w34.cell? ⟨gb234, 1, none⟩ = some (.int .i64 a3_1) ∧ w34.cell? ⟨gb234, 2, none⟩ = some (.int .i64 a3_2) := hS_
          refine norm_ (a' := ?_) ?_ ?_
          rotate_left
          · simp only [putAll, Act.put, List.setIfInBounds_toArray, List.set_cons_zero, List.set_cons_succ]
            rfl
          refine one_ (i := 7) (N := some 26) #[true, true, true, true, true, true, true, true, true, false] rfl rfl (one_of HT_.out (by kernel_rfl)) (by decide) (fun K hK => ?_)
          refine goes_ Try.func34 (by kernel_rfl) rfl #[.int .i64 a0, .agg #[.bool t235, .int .i64 t236, .int .i64 t237], .agg #[.bool t238, .int .i64 t239, .int .i64 t240], .agg #[.bool t241, .int .i64 t242, .int .i64 t243]] (by rfl) rfl rfl (by (try simp only [List.map_toArray, List.map_cons, List.map_nil]); first | done | rfl | (simp only [List.length_drop, List.length_take]; rfl)) ?_
          with_reducible refine (impl_BackMin.calls k a0 t235 t236 t237 t238 t239 t240 t241 t242 t243 t257 t258 t259 _ A12.out).mono ?_
          rintro e w35 ⟨rfl, hb⟩
          refine ⟨_, rfl, ?_⟩
          have n0_ := Aside0.mk (blk_below (g := gb232) (o := .cells #[.bool a1_0, .int .i64 a1_1, .int .i64 a1_2] 27 (0, 0)) (by (with_reducible repeat (first | refine blk_drewN ?_ _ | refine blk_drew ?_ | refine blk_alloc ?_ _)); exact BK232.out) hb)
          have n1_ := Aside0.mk (blk_below (g := gb233) (o := .cells #[.bool a2_0, .int .i64 a2_1, .int .i64 a2_2] 27 (0, 0)) (by (with_reducible repeat (first | refine blk_drewN ?_ _ | refine blk_drew ?_ | refine blk_alloc ?_ _)); exact BK233.out) hb)
          have n2_ := Aside0.mk (blk_below (g := gb234) (o := .cells #[.bool a3_0, .int .i64 a3_1, .int .i64 a3_2] 27 (0, 0)) (by (with_reducible repeat (first | refine blk_drewN ?_ _ | refine blk_drew ?_ | refine blk_alloc ?_ _)); exact BK234.out) hb)
          have n3_ := Aside0.mk (blk_below (g := gb247) (o := .cells #[.bool t244, .int .i64 t245, .int .i64 t246] 23 (0, 0)) (by (with_reducible repeat (first | refine blk_drewN ?_ _ | refine blk_drew ?_ | refine blk_alloc ?_ _)); exact BK247.out) hb)
          have n4_ := Aside0.mk (blk_below (g := gb260) (o := .cells #[.bool false, .int .i64 0, .int .i64 0] 23 (0, 0)) (by (with_reducible repeat (first | refine blk_drewN ?_ _ | refine blk_drew ?_ | refine blk_alloc ?_ _)); exact BK260.out) hb)
          have n5_ := Aside0.mk (below_step (by repeat (first | (with_reducible first | exact HB.out | apply below_alloc | apply pw_below_drewN | apply below_drew1 | refine below_set ?_ GE232.out | refine below_set ?_ GE233.out | refine below_set ?_ GE234.out | refine below_set ?_ GE247.out | refine below_set ?_ GE260.out) | exact HB.out)) hb)
          clear BK232
          clear BK233
          clear BK234
          clear BK247
          clear BK260
          clear HB
          have BK232 := n0_
          have BK233 := n1_
          have BK234 := n2_
          have BK247 := n3_
          have BK260 := n4_
          have HB := n5_
          clear n0_ n1_ n2_ n3_ n4_ n5_
          (try clear hb)
          (try clear hb2)
          (try clear hk)
          (try clear hi)
          refine hK.out _ _ ⟨(blk_cell BK232.out 0).trans rfl, (blk_cell BK232.out 1).trans rfl, (blk_cell BK232.out 2).trans rfl, (blk_cell BK233.out 0).trans rfl, (blk_cell BK233.out 1).trans rfl, (blk_cell BK233.out 2).trans rfl, (blk_cell BK234.out 0).trans rfl, (blk_cell BK234.out 1).trans rfl, (blk_cell BK234.out 2).trans rfl⟩ (fun hHeld => ?_)
          clear hK K
          refine norm_ (a' := ?_) ?_ ?_
          rotate_left
          · show Act.put _ (some 26) _ = _
            simp only [Act.put, List.setIfInBounds_toArray, List.set_cons_zero, List.set_cons_succ, i64_w, i32_w]
            rfl
          exact norm_ (by first | (simp only [putAll, Act.put, List.setIfInBounds_toArray, List.set_cons_zero, List.set_cons_succ]; done) | (simp only [putAll, Act.put, List.setIfInBounds_toArray, List.set_cons_zero, List.set_cons_succ]; rfl)) (hJ2_4_6_7_8 (gb260) _ ⟨hHeld, (by (with_reducible repeat (first | refine blk_drewN ?_ _ | refine blk_drew ?_ | refine blk_alloc ?_ _)); exact BK232.out), (by (with_reducible repeat (first | refine blk_drewN ?_ _ | refine blk_drew ?_ | refine blk_alloc ?_ _)); exact BK233.out), (by (with_reducible repeat (first | refine blk_drewN ?_ _ | refine blk_drew ?_ | refine blk_alloc ?_ _)); exact BK234.out), (by (with_reducible repeat (first | refine blk_drewN ?_ _ | refine blk_drew ?_ | refine blk_alloc ?_ _)); exact BK247.out), (by (with_reducible repeat (first | refine blk_drewN ?_ _ | refine blk_drew ?_ | refine blk_alloc ?_ _)); exact BK260.out), GW260.out, GE260.out, NB232_260.out, NB260_232.out, NB233_260.out, NB260_233.out, NB234_260.out, NB260_234.out, NB247_260.out, NB260_247.out, (by repeat (first | (with_reducible first | exact HB.out | apply below_alloc | apply pw_below_drewN | apply below_drew1 | refine below_set ?_ GE232.out | refine below_set ?_ GE233.out | refine below_set ?_ GE234.out | refine below_set ?_ GE247.out | refine below_set ?_ GE260.out) | exact HB.out))⟩)
      · skip
        rintro _ w34 ⟨hS_, h0_, h1_, h2_, h3_, h4_⟩
        have n0_ : Aside0 (w34.heap[gb232]? = some (.cells #[.bool a1_0, .int .i64 a1_1, .int .i64 a1_2] 27 (0, 0))) := ⟨h0_⟩
        have n1_ : Aside0 (w34.heap[gb233]? = some (.cells #[.bool a2_0, .int .i64 a2_1, .int .i64 a2_2] 27 (0, 0))) := ⟨h1_⟩
        have n2_ : Aside0 (w34.heap[gb234]? = some (.cells #[.bool a3_0, .int .i64 a3_1, .int .i64 a3_2] 27 (0, 0))) := ⟨h2_⟩
        have n3_ : Aside0 (w34.heap[gb247]? = some (.cells #[.bool t244, .int .i64 t245, .int .i64 t246] 23 (0, 0))) := ⟨h3_⟩
        have n4_ : Aside0 (Below w.heap.size w w34) := ⟨h4_⟩
        clear BK232
        clear BK233
        clear BK234
        clear BK247
        clear HB
        clear h0_ h1_ h2_ h3_ h4_
        have BK232 := n0_
        have BK233 := n1_
        have BK234 := n2_
        have BK247 := n3_
        have HB := n4_
        clear n0_ n1_ n2_ n3_ n4_
        have hHeld : w34.cell? ⟨gb232, 0, none⟩ = some (.bool a1_0) ∧ w34.cell? ⟨gb232, 1, none⟩ = some (.int .i64 a1_1) ∧ w34.cell? ⟨gb232, 2, none⟩ = some (.int .i64 a1_2) ∧ w34.cell? ⟨gb233, 0, none⟩ = some (.bool a2_0) ∧ w34.cell? ⟨gb233, 1, none⟩ = some (.int .i64 a2_1) ∧ w34.cell? ⟨gb233, 2, none⟩ = some (.int .i64 a2_2) ∧ w34.cell? ⟨gb234, 0, none⟩ = some (.bool a3_0) ∧ w34.cell? ⟨gb234, 1, none⟩ = some (.int .i64 a3_1) ∧ w34.cell? ⟨gb234, 2, none⟩ = some (.int .i64 a3_2) := hS_
        refine norm_ (a' := ?_) ?_ ?_
        rotate_left
        · simp only [putAll, Act.put, List.setIfInBounds_toArray, List.set_cons_zero, List.set_cons_succ]
          rfl
        refine one_ (i := 8) (N := some 10) #[true, true, true, true, true, true, true, true, true, false] rfl rfl (one_of HT_.out (by kernel_rfl)) (by decide) (fun K hK => ?_)
        refine box_step ?hg (N := 10) ?hd (cs := #[.bool false, .int .i64 0, .int .i64 0]) (t := 23) ?hr ?_; (case hd => rfl); (case hg => rfl); (case hr => first | (go_simp; done) | (go_simp; rfl))
        intro gb260 hg w35 hbox hb
        have n0_ := Aside0.mk (blk_below (g := gb232) (o := .cells #[.bool a1_0, .int .i64 a1_1, .int .i64 a1_2] 27 (0, 0)) (by (with_reducible repeat (first | refine blk_drewN ?_ _ | refine blk_drew ?_ | refine blk_alloc ?_ _)); exact BK232.out) hb)
        have n1_ := Aside0.mk (blk_below (g := gb233) (o := .cells #[.bool a2_0, .int .i64 a2_1, .int .i64 a2_2] 27 (0, 0)) (by (with_reducible repeat (first | refine blk_drewN ?_ _ | refine blk_drew ?_ | refine blk_alloc ?_ _)); exact BK233.out) hb)
        have n2_ := Aside0.mk (blk_below (g := gb234) (o := .cells #[.bool a3_0, .int .i64 a3_1, .int .i64 a3_2] 27 (0, 0)) (by (with_reducible repeat (first | refine blk_drewN ?_ _ | refine blk_drew ?_ | refine blk_alloc ?_ _)); exact BK234.out) hb)
        have n3_ := Aside0.mk (blk_below (g := gb247) (o := .cells #[.bool t244, .int .i64 t245, .int .i64 t246] 23 (0, 0)) (by (with_reducible repeat (first | refine blk_drewN ?_ _ | refine blk_drew ?_ | refine blk_alloc ?_ _)); exact BK247.out) hb)
        have n4_ := Aside0.mk (below_step (by repeat (first | (with_reducible first | exact HB.out | apply below_alloc | apply pw_below_drewN | apply below_drew1 | refine below_set ?_ GE232.out | refine below_set ?_ GE233.out | refine below_set ?_ GE234.out | refine below_set ?_ GE247.out) | exact HB.out)) hb)
        have n5_ := Aside0.mk (hbox)
        have n6_ := Aside0.mk ((by rw [hg]; exact (below_size (by repeat (first | (with_reducible first | exact HB.out | apply below_alloc | apply pw_below_drewN | apply below_drew1 | refine below_set ?_ GE232.out | refine below_set ?_ GE233.out | refine below_set ?_ GE234.out | refine below_set ?_ GE247.out) | exact HB.out))) : w.heap.size ≤ gb260))
        have n7_ := Aside0.mk ((by rw [hg]; exact (below_size (by repeat (first | (with_reducible first | exact HB.out | apply below_alloc | apply pw_below_drewN | apply below_drew1 | refine below_set ?_ GE232.out | refine below_set ?_ GE233.out | refine below_set ?_ GE234.out | refine below_set ?_ GE247.out) | exact HB.out))) : w.heap.size ≤ gb260))
        have n8_ := Aside0.mk ((by rw [hg]; exact Nat.ne_of_lt (blk_lt (g := gb232) (o := .cells #[.bool a1_0, .int .i64 a1_1, .int .i64 a1_2] 27 (0, 0)) (by (with_reducible repeat (first | refine blk_drewN ?_ _ | refine blk_drew ?_ | refine blk_alloc ?_ _)); exact BK232.out)) : gb232 ≠ gb260))
        have n9_ := Aside0.mk ((by rw [hg]; exact Nat.ne_of_gt (blk_lt (g := gb232) (o := .cells #[.bool a1_0, .int .i64 a1_1, .int .i64 a1_2] 27 (0, 0)) (by (with_reducible repeat (first | refine blk_drewN ?_ _ | refine blk_drew ?_ | refine blk_alloc ?_ _)); exact BK232.out)) : gb260 ≠ gb232))
        have n10_ := Aside0.mk ((by rw [hg]; exact Nat.ne_of_lt (blk_lt (g := gb233) (o := .cells #[.bool a2_0, .int .i64 a2_1, .int .i64 a2_2] 27 (0, 0)) (by (with_reducible repeat (first | refine blk_drewN ?_ _ | refine blk_drew ?_ | refine blk_alloc ?_ _)); exact BK233.out)) : gb233 ≠ gb260))
        have n11_ := Aside0.mk ((by rw [hg]; exact Nat.ne_of_gt (blk_lt (g := gb233) (o := .cells #[.bool a2_0, .int .i64 a2_1, .int .i64 a2_2] 27 (0, 0)) (by (with_reducible repeat (first | refine blk_drewN ?_ _ | refine blk_drew ?_ | refine blk_alloc ?_ _)); exact BK233.out)) : gb260 ≠ gb233))
        have n12_ := Aside0.mk ((by rw [hg]; exact Nat.ne_of_lt (blk_lt (g := gb234) (o := .cells #[.bool a3_0, .int .i64 a3_1, .int .i64 a3_2] 27 (0, 0)) (by (with_reducible repeat (first | refine blk_drewN ?_ _ | refine blk_drew ?_ | refine blk_alloc ?_ _)); exact BK234.out)) : gb234 ≠ gb260))
        have n13_ := Aside0.mk ((by rw [hg]; exact Nat.ne_of_gt (blk_lt (g := gb234) (o := .cells #[.bool a3_0, .int .i64 a3_1, .int .i64 a3_2] 27 (0, 0)) (by (with_reducible repeat (first | refine blk_drewN ?_ _ | refine blk_drew ?_ | refine blk_alloc ?_ _)); exact BK234.out)) : gb260 ≠ gb234))
        have n14_ := Aside0.mk ((by rw [hg]; exact Nat.ne_of_lt (blk_lt (g := gb247) (o := .cells #[.bool t244, .int .i64 t245, .int .i64 t246] 23 (0, 0)) (by (with_reducible repeat (first | refine blk_drewN ?_ _ | refine blk_drew ?_ | refine blk_alloc ?_ _)); exact BK247.out)) : gb247 ≠ gb260))
        have n15_ := Aside0.mk ((by rw [hg]; exact Nat.ne_of_gt (blk_lt (g := gb247) (o := .cells #[.bool t244, .int .i64 t245, .int .i64 t246] 23 (0, 0)) (by (with_reducible repeat (first | refine blk_drewN ?_ _ | refine blk_drew ?_ | refine blk_alloc ?_ _)); exact BK247.out)) : gb260 ≠ gb247))
        clear BK232
        clear BK233
        clear BK234
        clear BK247
        clear HB
        have BK232 := n0_
        have BK233 := n1_
        have BK234 := n2_
        have BK247 := n3_
        have HB := n4_
        have BK260 := n5_
        have GW260 := n6_
        have GE260 := n7_
        have NB232_260 := n8_
        have NB260_232 := n9_
        have NB233_260 := n10_
        have NB260_233 := n11_
        have NB234_260 := n12_
        have NB260_234 := n13_
        have NB247_260 := n14_
        have NB260_247 := n15_
        clear n0_ n1_ n2_ n3_ n4_ n5_ n6_ n7_ n8_ n9_ n10_ n11_ n12_ n13_ n14_ n15_
        clear hb hbox hg
        refine hK.out _ _ ⟨(blk_cell BK232.out 0).trans rfl, (blk_cell BK232.out 1).trans rfl, (blk_cell BK232.out 2).trans rfl, (blk_cell BK233.out 0).trans rfl, (blk_cell BK233.out 1).trans rfl, (blk_cell BK233.out 2).trans rfl, (blk_cell BK234.out 0).trans rfl, (blk_cell BK234.out 1).trans rfl, (blk_cell BK234.out 2).trans rfl⟩ (fun hHeld => ?_)
        clear hK K
        refine norm_ (a' := ?_) ?_ ?_
        rotate_left
        · show Act.put _ (some 10) _ = _
          simp only [Act.put, List.setIfInBounds_toArray, List.set_cons_zero, List.set_cons_succ, i64_w, i32_w]
          rfl
        exact norm_ (by first | (simp only [putAll, Act.put, List.setIfInBounds_toArray, List.set_cons_zero, List.set_cons_succ]; done) | (simp only [putAll, Act.put, List.setIfInBounds_toArray, List.set_cons_zero, List.set_cons_succ]; rfl)) (hJ2_4_6_7_8 (gb260) _ ⟨hHeld, (by (with_reducible repeat (first | refine blk_drewN ?_ _ | refine blk_drew ?_ | refine blk_alloc ?_ _)); exact BK232.out), (by (with_reducible repeat (first | refine blk_drewN ?_ _ | refine blk_drew ?_ | refine blk_alloc ?_ _)); exact BK233.out), (by (with_reducible repeat (first | refine blk_drewN ?_ _ | refine blk_drew ?_ | refine blk_alloc ?_ _)); exact BK234.out), (by (with_reducible repeat (first | refine blk_drewN ?_ _ | refine blk_drew ?_ | refine blk_alloc ?_ _)); exact BK247.out), (by (with_reducible repeat (first | refine blk_drewN ?_ _ | refine blk_drew ?_ | refine blk_alloc ?_ _)); exact BK260.out), GW260.out, GE260.out, NB232_260.out, NB260_232.out, NB233_260.out, NB260_233.out, NB234_260.out, NB260_234.out, NB247_260.out, NB260_247.out, (by repeat (first | (with_reducible first | exact HB.out | apply below_alloc | apply pw_below_drewN | apply below_drew1 | refine below_set ?_ GE232.out | refine below_set ?_ GE233.out | refine below_set ?_ GE234.out | refine below_set ?_ GE247.out | refine below_set ?_ GE260.out) | exact HB.out))⟩)
    rintro gb260 w35 ⟨hS_, h0_, h1_, h2_, h3_, h4_, h5_, h6_, h7_, h8_, h9_, h10_, h11_, h12_, h13_, h14_, h15_⟩
    have n0_ : Aside0 (w35.heap[gb232]? = some (.cells #[.bool a1_0, .int .i64 a1_1, .int .i64 a1_2] 27 (0, 0))) := ⟨h0_⟩
    have n1_ : Aside0 (w35.heap[gb233]? = some (.cells #[.bool a2_0, .int .i64 a2_1, .int .i64 a2_2] 27 (0, 0))) := ⟨h1_⟩
    have n2_ : Aside0 (w35.heap[gb234]? = some (.cells #[.bool a3_0, .int .i64 a3_1, .int .i64 a3_2] 27 (0, 0))) := ⟨h2_⟩
    have n3_ : Aside0 (w35.heap[gb247]? = some (.cells #[.bool t244, .int .i64 t245, .int .i64 t246] 23 (0, 0))) := ⟨h3_⟩
    have n4_ : Aside0 (w35.heap[gb260]? = some (.cells #[.bool false, .int .i64 0, .int .i64 0] 23 (0, 0))) := ⟨h4_⟩
    have n5_ : Aside0 (w.heap.size ≤ gb260) := ⟨h5_⟩
    have n6_ : Aside0 (w.heap.size ≤ gb260) := ⟨h6_⟩
    have n7_ : Aside0 (gb232 ≠ gb260) := ⟨h7_⟩
    have n8_ : Aside0 (gb260 ≠ gb232) := ⟨h8_⟩
    have n9_ : Aside0 (gb233 ≠ gb260) := ⟨h9_⟩
    have n10_ : Aside0 (gb260 ≠ gb233) := ⟨h10_⟩
    have n11_ : Aside0 (gb234 ≠ gb260) := ⟨h11_⟩
    have n12_ : Aside0 (gb260 ≠ gb234) := ⟨h12_⟩
    have n13_ : Aside0 (gb247 ≠ gb260) := ⟨h13_⟩
    have n14_ : Aside0 (gb260 ≠ gb247) := ⟨h14_⟩
    have n15_ : Aside0 (Below w.heap.size w w35) := ⟨h15_⟩
    clear BK232
    clear BK233
    clear BK234
    clear BK247
    clear HB
    clear h0_ h1_ h2_ h3_ h4_ h5_ h6_ h7_ h8_ h9_ h10_ h11_ h12_ h13_ h14_ h15_
    have BK232 := n0_
    have BK233 := n1_
    have BK234 := n2_
    have BK247 := n3_
    have BK260 := n4_
    have GW260 := n5_
    have GE260 := n6_
    have NB232_260 := n7_
    have NB260_232 := n8_
    have NB233_260 := n9_
    have NB260_233 := n10_
    have NB234_260 := n11_
    have NB260_234 := n12_
    have NB247_260 := n13_
    have NB260_247 := n14_
    have HB := n15_
    clear n0_ n1_ n2_ n3_ n4_ n5_ n6_ n7_ n8_ n9_ n10_ n11_ n12_ n13_ n14_ n15_
    have hHeld : w35.cell? ⟨gb232, 0, none⟩ = some (.bool a1_0) ∧ w35.cell? ⟨gb232, 1, none⟩ = some (.int .i64 a1_1) ∧ w35.cell? ⟨gb232, 2, none⟩ = some (.int .i64 a1_2) ∧ w35.cell? ⟨gb233, 0, none⟩ = some (.bool a2_0) ∧ w35.cell? ⟨gb233, 1, none⟩ = some (.int .i64 a2_1) ∧ w35.cell? ⟨gb233, 2, none⟩ = some (.int .i64 a2_2) ∧ w35.cell? ⟨gb234, 0, none⟩ = some (.bool a3_0) ∧ w35.cell? ⟨gb234, 1, none⟩ = some (.int .i64 a3_1) ∧ w35.cell? ⟨gb234, 2, none⟩ = some (.int .i64 a3_2) := hS_
    refine norm_ (a' := ?_) ?_ ?_
    rotate_left
    · simp only [putAll, Act.put, List.setIfInBounds_toArray, List.set_cons_zero, List.set_cons_succ]
      rfl
    refine one_ (i := 9) (N := none) #[true, true, true, true, true, true, true, true, true, true] rfl rfl (one_of HT_.out (by kernel_rfl)) (by decide) (fun K hK => ?_)
    have hs36 : w35.cell? ⟨gb260, 0, none⟩ = some (.bool false) := (blk_cell BK260.out 0).trans rfl
    have hfs36 := blk_frozen BK260.out 0
    have hns36_0 := NB232_260.out
    have hns36_1 := NB233_260.out
    have hns36_2 := NB234_260.out
    have hns36_3 := NB247_260.out
    have hms36_0 := NB260_232.out
    have hms36_1 := NB260_233.out
    have hms36_2 := NB260_234.out
    have hms36_3 := NB260_247.out
    have hs37 : w35.cell? ⟨gb260, 1, none⟩ = some (.int .i64 0) := (blk_cell BK260.out 1).trans rfl
    have hfs37 := blk_frozen BK260.out 1
    have hns37_0 := NB232_260.out
    have hns37_1 := NB233_260.out
    have hns37_2 := NB234_260.out
    have hns37_3 := NB247_260.out
    have hms37_0 := NB260_232.out
    have hms37_1 := NB260_233.out
    have hms37_2 := NB260_234.out
    have hms37_3 := NB260_247.out
    have hs38 : w35.cell? ⟨gb260, 2, none⟩ = some (.int .i64 0) := (blk_cell BK260.out 2).trans rfl
    have hfs38 := blk_frozen BK260.out 2
    have hns38_0 := NB232_260.out
    have hns38_1 := NB233_260.out
    have hns38_2 := NB234_260.out
    have hns38_3 := NB247_260.out
    have hms38_0 := NB260_232.out
    have hms38_1 := NB260_233.out
    have hms38_2 := NB260_234.out
    have hms38_3 := NB260_247.out
    refine skip_ (w1 := ?_) (by rfl) rfl ?_ ?_
    rotate_left
    · go_simp
      rfl
    refine hK.out _ _ ⟨((cell_far (p := ⟨gb260, _, none⟩) NB232_260.out _).trans (((cell_far (p := ⟨gb260, _, none⟩) NB232_260.out _).trans (((cell_far (p := ⟨gb260, _, none⟩) NB232_260.out _).trans (hHeld.1)))))), ((cell_far (p := ⟨gb260, _, none⟩) NB232_260.out _).trans (((cell_far (p := ⟨gb260, _, none⟩) NB232_260.out _).trans (((cell_far (p := ⟨gb260, _, none⟩) NB232_260.out _).trans (hHeld.2.1)))))), ((cell_far (p := ⟨gb260, _, none⟩) NB232_260.out _).trans (((cell_far (p := ⟨gb260, _, none⟩) NB232_260.out _).trans (((cell_far (p := ⟨gb260, _, none⟩) NB232_260.out _).trans (hHeld.2.2.1)))))), ((cell_far (p := ⟨gb260, _, none⟩) NB233_260.out _).trans (((cell_far (p := ⟨gb260, _, none⟩) NB233_260.out _).trans (((cell_far (p := ⟨gb260, _, none⟩) NB233_260.out _).trans (hHeld.2.2.2.1)))))), ((cell_far (p := ⟨gb260, _, none⟩) NB233_260.out _).trans (((cell_far (p := ⟨gb260, _, none⟩) NB233_260.out _).trans (((cell_far (p := ⟨gb260, _, none⟩) NB233_260.out _).trans (hHeld.2.2.2.2.1)))))), ((cell_far (p := ⟨gb260, _, none⟩) NB233_260.out _).trans (((cell_far (p := ⟨gb260, _, none⟩) NB233_260.out _).trans (((cell_far (p := ⟨gb260, _, none⟩) NB233_260.out _).trans (hHeld.2.2.2.2.2.1)))))), ((cell_far (p := ⟨gb260, _, none⟩) NB234_260.out _).trans (((cell_far (p := ⟨gb260, _, none⟩) NB234_260.out _).trans (((cell_far (p := ⟨gb260, _, none⟩) NB234_260.out _).trans (hHeld.2.2.2.2.2.2.1)))))), ((cell_far (p := ⟨gb260, _, none⟩) NB234_260.out _).trans (((cell_far (p := ⟨gb260, _, none⟩) NB234_260.out _).trans (((cell_far (p := ⟨gb260, _, none⟩) NB234_260.out _).trans (hHeld.2.2.2.2.2.2.2.1)))))), ((cell_far (p := ⟨gb260, _, none⟩) NB234_260.out _).trans (((cell_far (p := ⟨gb260, _, none⟩) NB234_260.out _).trans (((cell_far (p := ⟨gb260, _, none⟩) NB234_260.out _).trans (hHeld.2.2.2.2.2.2.2.2))))))⟩ (fun hHeld => ?_)
    clear hK K
    refine done_ (done_of HT_.out (by kernel_rfl)) ?_
    have hnb39 := NB260_232.out
    have hnc39 := NB232_260.out
    have hnb40 := NB260_233.out
    have hnc40 := NB233_260.out
    have hnb41 := NB260_234.out
    have hnc41 := NB234_260.out
    have hnb42 := NB260_247.out
    have hnc42 := NB247_260.out
    have hcz43_0 : w35.cell? ⟨gb260, 0, none⟩ = some (.bool false) := (blk_cell BK260.out 0).trans rfl
    have hcz43_1 : w35.cell? ⟨gb260, 1, none⟩ = some (.int .i64 0) := (blk_cell BK260.out 1).trans rfl
    have hcz43_2 : w35.cell? ⟨gb260, 2, none⟩ = some (.int .i64 0) := (blk_cell BK260.out 2).trans rfl
    have hfz43_0 := blk_frozen BK260.out 0
    have hfz43_1 := blk_frozen BK260.out 1
    have hfz43_2 := blk_frozen BK260.out 2
    have hnb44 := NB247_232.out
    have hnc44 := NB232_247.out
    have hnb45 := NB247_233.out
    have hnc45 := NB233_247.out
    have hnb46 := NB247_234.out
    have hnc46 := NB234_247.out
    have hcz47_0 : w35.cell? ⟨gb247, 0, none⟩ = some (.bool t244) := (blk_cell BK247.out 0).trans rfl
    have hcz47_1 : w35.cell? ⟨gb247, 1, none⟩ = some (.int .i64 t245) := (blk_cell BK247.out 1).trans rfl
    have hcz47_2 : w35.cell? ⟨gb247, 2, none⟩ = some (.int .i64 t246) := (blk_cell BK247.out 2).trans rfl
    have hfz47_0 := blk_frozen BK247.out 0
    have hfz47_1 := blk_frozen BK247.out 1
    have hfz47_2 := blk_frozen BK247.out 2
    try go_wp2_with (first | ((with_reducible refine gate_callee (f := 17) rfl ?_); refine goesL_ (some 29) rfl rfl Try.func17 (by kernel_rfl) rfl #[.agg #[.bool t257, .int .i64 t258, .int .i64 t259], .agg #[.bool t244, .int .i64 t245, .int .i64 t246]] rfl (by (try simp only [List.map_toArray, List.map_cons, List.map_nil]); first | done | rfl | (simp only [List.length_drop, List.length_take]; rfl)) ?_; (with_reducible refine (laws_eqSpan.calls t257 t258 t259 t244 t245 t246 true _ A13.out).mono ?_); rintro e w48 ⟨rfl, hb⟩; refine ⟨_, rfl, ?_⟩; have n0_ := Aside0.mk (blk_below (g := gb232) (o := .cells #[.bool a1_0, .int .i64 a1_1, .int .i64 a1_2] 27 (0, 0)) (by (with_reducible repeat (first | refine blk_drewN ?_ _ | refine blk_drew ?_ | refine blk_alloc ?_ _)); refine blk_far ?_ NB232_260.out _; (with_reducible repeat (first | refine blk_drewN ?_ _ | refine blk_drew ?_ | refine blk_alloc ?_ _)); refine blk_far ?_ NB232_260.out _; (with_reducible repeat (first | refine blk_drewN ?_ _ | refine blk_drew ?_ | refine blk_alloc ?_ _)); refine blk_far ?_ NB232_260.out _; (with_reducible repeat (first | refine blk_drewN ?_ _ | refine blk_drew ?_ | refine blk_alloc ?_ _)); exact BK232.out) hb); have n1_ := Aside0.mk (blk_below (g := gb233) (o := .cells #[.bool a2_0, .int .i64 a2_1, .int .i64 a2_2] 27 (0, 0)) (by (with_reducible repeat (first | refine blk_drewN ?_ _ | refine blk_drew ?_ | refine blk_alloc ?_ _)); refine blk_far ?_ NB233_260.out _; (with_reducible repeat (first | refine blk_drewN ?_ _ | refine blk_drew ?_ | refine blk_alloc ?_ _)); refine blk_far ?_ NB233_260.out _; (with_reducible repeat (first | refine blk_drewN ?_ _ | refine blk_drew ?_ | refine blk_alloc ?_ _)); refine blk_far ?_ NB233_260.out _; (with_reducible repeat (first | refine blk_drewN ?_ _ | refine blk_drew ?_ | refine blk_alloc ?_ _)); exact BK233.out) hb); have n2_ := Aside0.mk (blk_below (g := gb234) (o := .cells #[.bool a3_0, .int .i64 a3_1, .int .i64 a3_2] 27 (0, 0)) (by (with_reducible repeat (first | refine blk_drewN ?_ _ | refine blk_drew ?_ | refine blk_alloc ?_ _)); refine blk_far ?_ NB234_260.out _; (with_reducible repeat (first | refine blk_drewN ?_ _ | refine blk_drew ?_ | refine blk_alloc ?_ _)); refine blk_far ?_ NB234_260.out _; (with_reducible repeat (first | refine blk_drewN ?_ _ | refine blk_drew ?_ | refine blk_alloc ?_ _)); refine blk_far ?_ NB234_260.out _; (with_reducible repeat (first | refine blk_drewN ?_ _ | refine blk_drew ?_ | refine blk_alloc ?_ _)); exact BK234.out) hb); have n3_ := Aside0.mk (blk_below (g := gb247) (o := .cells #[.bool t244, .int .i64 t245, .int .i64 t246] 23 (0, 0)) (by (with_reducible repeat (first | refine blk_drewN ?_ _ | refine blk_drew ?_ | refine blk_alloc ?_ _)); refine blk_far ?_ NB247_260.out _; (with_reducible repeat (first | refine blk_drewN ?_ _ | refine blk_drew ?_ | refine blk_alloc ?_ _)); refine blk_far ?_ NB247_260.out _; (with_reducible repeat (first | refine blk_drewN ?_ _ | refine blk_drew ?_ | refine blk_alloc ?_ _)); refine blk_far ?_ NB247_260.out _; (with_reducible repeat (first | refine blk_drewN ?_ _ | refine blk_drew ?_ | refine blk_alloc ?_ _)); exact BK247.out) hb); have n4_ := Aside0.mk (blk_below (g := gb260) (o := .cells #[.bool t257, .int .i64 t258, .int .i64 t259] 23 (0, 0)) (by (with_reducible repeat (first | refine blk_drewN ?_ _ | refine blk_drew ?_ | refine blk_alloc ?_ _)); refine blk_put (cs := #[.bool t257, .int .i64 t258, .int .i64 0]) ?_ 2 _ rfl; (with_reducible repeat (first | refine blk_drewN ?_ _ | refine blk_drew ?_ | refine blk_alloc ?_ _)); refine blk_put (cs := #[.bool t257, .int .i64 0, .int .i64 0]) ?_ 1 _ rfl; (with_reducible repeat (first | refine blk_drewN ?_ _ | refine blk_drew ?_ | refine blk_alloc ?_ _)); refine blk_put (cs := #[.bool false, .int .i64 0, .int .i64 0]) ?_ 0 _ rfl; (with_reducible repeat (first | refine blk_drewN ?_ _ | refine blk_drew ?_ | refine blk_alloc ?_ _)); exact BK260.out) hb); have n5_ := Aside0.mk (below_step (by repeat (first | (with_reducible first | exact HB.out | apply below_alloc | apply pw_below_drewN | apply below_drew1 | refine below_set ?_ GE232.out | refine below_set ?_ GE233.out | refine below_set ?_ GE234.out | refine below_set ?_ GE247.out | refine below_set ?_ GE260.out) | exact HB.out)) hb); clear BK232; clear BK233; clear BK234; clear BK247; clear BK260; clear HB; have BK232 := n0_; have BK233 := n1_; have BK234 := n2_; have BK247 := n3_; have BK260 := n4_; have HB := n5_; clear n0_ n1_ n2_ n3_ n4_ n5_; (try clear hb); (try clear hb2); (try clear hk); (try clear hi)))
    go_ret
    exact ⟨by first | rfl | (simp [errW_none, errW_some] <;> rfl) | (simp [*, errW_none, errW_some] <;> rfl), by repeat (first | (with_reducible first | exact HB.out | apply below_alloc | apply pw_below_drewN | apply below_drew1 | refine below_set ?_ GE232.out | refine below_set ?_ GE233.out | refine below_set ?_ GE234.out | refine below_set ?_ GE247.out | refine below_set ?_ GE260.out) | exact HB.out)⟩
  · replace c14 := Bool.eq_false_iff.mpr c14
    subst c14
    have H1 : (some false) = some r := by rw [if_neg (show ¬ (false = true) by decide)] at H; exact H
    clear H
    have H := H1
    clear H1
    exact absurd (hr.out.trans (Option.some.inj H).symm) (by decide)

/-- The one plain statement of laws_FnExactBackMin. -/
def laws_FnExactBackMin.Pure : Prop := ∀ (a0 : Int) (a1_0 : Bool) (a1_1 : Int) (a1_2 : Int) (a2_0 : Bool) (a2_1 : Int) (a2_2 : Int) (a3_0 : Bool) (a3_1 : Int) (a3_2 : Int), (Lit.int .i64 a0).wf = true → (Lit.int .i64 a1_1).wf = true → (Lit.int .i64 a1_2).wf = true → (Lit.int .i64 a2_1).wf = true → (Lit.int .i64 a2_2).wf = true → (Lit.int .i64 a3_1).wf = true → (Lit.int .i64 a3_2).wf = true → ∃ k, laws_FnExactBackMin.f k a0 a1_0 a1_1 a1_2 a2_0 a2_1 a2_2 a3_0 a3_1 a3_2 = some true
theorem laws_FnExactBackMin.walk (P : laws_FnExactBackMin.Pure) (a0 : Int) (a1_0 : Bool) (a1_1 : Int) (a1_2 : Int) (a2_0 : Bool) (a2_1 : Int) (a2_2 : Int) (a3_0 : Bool) (a3_1 : Int) (a3_2 : Int) (w : World) (w0 : (Lit.int .i64 a0).wf = true) (w1_1 : (Lit.int .i64 a1_1).wf = true) (w1_2 : (Lit.int .i64 a1_2).wf = true) (w2_1 : (Lit.int .i64 a2_1).wf = true) (w2_2 : (Lit.int .i64 a2_2).wf = true) (w3_1 : (Lit.int .i64 a3_1).wf = true) (w3_2 : (Lit.int .i64 a3_2).wf = true) :
    Calls Try.prog 11 #[.int .i64 a0, .agg #[.bool a1_0, .int .i64 a1_1, .int .i64 a1_2], .agg #[.bool a2_0, .int .i64 a2_1, .int .i64 a2_2], .agg #[.bool a3_0, .int .i64 a3_1, .int .i64 a3_2]] w fun e w' => e = .returned (.bool true) ∧ Below w.heap.size w w' := by
  obtain ⟨k, h⟩ := P a0 a1_0 a1_1 a1_2 a2_0 a2_1 a2_2 a3_0 a3_1 a3_2 w0 w1_1 w1_2 w2_1 w2_2 w3_1 w3_2
  refine (laws_FnExactBackMin.calls k a0 a1_0 a1_1 a1_2 a2_0 a2_1 a2_2 a3_0 a3_1 a3_2 true w  h (Aside0.mk rfl)).mono ?_
  rintro e w' ⟨rfl, hd⟩
  exact ⟨rfl, hd⟩

end Go.Proofs.Ytjiaanjbgibciaa.QFnExactBackMin
