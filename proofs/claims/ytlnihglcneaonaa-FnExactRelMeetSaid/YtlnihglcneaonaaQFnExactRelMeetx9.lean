/- The machine side of one law: each function and the law itself walked once, written by a program of this session (wip/xprint.py) that runs the printer of the kit.
   Conditions: none. -/
import Derived.Test.YtlnihglcneaonaaQFnExactRelMeetx0
import Derived.Test.YtlnihglcneaonaaQFnExactRelMeetx5
import Derived.Test.YtlnihglcneaonaaQFnExactRelMeetx6
import Derived.Test.YtlnihglcneaonaaQFnExactRelMeetx7
import Derived.Test.YtlnihglcneaonaaQFnExactRelMeetx8
namespace Go.Proofs.Ytlnihglcneaonaa.QFnExactRelMeet
open Go.RowKit Go.Proofs.YtlnihglcneaonaaW.PrintWords Go.Proofs.YtlnihglcneaonaaW.PrintLast Go.Proofs.YtlnihglcneaonaaW.PrintMore
attribute [local go_sem] Go.Instr.field Go.asAgg Go.Proofs.Ytlnihglcneaonaa.MS.isSome_setCell
attribute [local go_sem] max2_int min2_int max_two min_two max_three min_three max_four min_four   -- for this text's walks alone
set_option linter.unusedVariables false
set_option linter.unusedSimpArgs false

/-! ### laws_FnExactRelMeet: function 3 -/
def laws_FnExactRelMeet.f (k : Nat) (a0 : Int) (a1 : Int) (a2_0 : Bool) (a2_1 : Int) (a2_2 : Int) (a3_0 : Bool) (a3_1 : Int) (a3_2 : Int) : Option (Bool) := (laws_toSpan.f a2_0 a2_1 a2_2).bind fun bt266 => ((laws_toSpan.f a3_0 a3_1 a3_2).bind fun bt269 => ((spec_RelMeet.f k a0 a1 bt266.1 bt266.2.1 bt266.2.2 bt269.1 bt269.2.1 bt269.2.2).bind fun bt272 => ((laws_toSpan.f a2_0 a2_1 a2_2).bind fun bt280 => ((laws_toSpan.f a3_0 a3_1 a3_2).bind fun bt283 => ((impl_RelMeet.f k a0 a1 bt280.1 bt280.2.1 bt280.2.2 bt283.1 bt283.2.1 bt283.2.2).bind fun bt286 => ((laws_eqSpan.f bt286.1 bt286.2.1 bt286.2.2.1 bt272.1 bt272.2.1 bt272.2.2.1).bind fun t294 => (if t294 = true then ((laws_eqSpan.f bt286.2.2.2.1 bt286.2.2.2.2.1 bt286.2.2.2.2.2 bt272.2.2.2.1 bt272.2.2.2.2.1 bt272.2.2.2.2.2).bind fun t295 => (if t295 = true then (some true) else (some false))) else (some false))))))))
theorem laws_FnExactRelMeet.mono : ∀ a0 a1 a2 a3 a4 a5 a6 a7 k, LeO (laws_FnExactRelMeet.f k a0 a1 a2 a3 a4 a5 a6 a7) (laws_FnExactRelMeet.f (k + 1) a0 a1 a2 a3 a4 a5 a6 a7) := by
 intro a0 a1 a2 a3 a4 a5 a6 a7 k
 unfold laws_FnExactRelMeet.f
 repeat' first
   | (with_reducible exact impl_RelMeet.mono _ _ _ _ _ _ _ _ _)
   | (with_reducible exact spec_RelMeet.mono _ _ _ _ _ _ _ _ _)
   | (with_reducible exact LeO.refl _)
   | (with_reducible exact LeO.none _)
   | (with_reducible refine LeO.ite ?_ ?_)
   | (with_reducible refine LeO.bind ?_ (fun _ => ?_))
   | exact impl_RelMeet.mono _ _ _ _ _ _ _ _ _
   | exact spec_RelMeet.mono _ _ _ _ _ _ _ _ _
   | exact LeO.none _
   | refine LeO.ite ?_ ?_
   | refine LeO.bind ?_ (fun _ => ?_)
def laws_FnExactRelMeet.T1 : Bool × List (List Nat × List Nat) := (true, [([], []), ([], []), ([], []), ([2], [2]), ([], []), ([4, 3], [4]), ([0, 1, 3, 5, 5], [0, 1, 3, 5]), ([6], [6]), ([7], [7]), ([7], [7]), ([], []), ([], []), ([10, 8, 6, 0, 1, 2, 3, 4, 5, 6, 7, 8, 10, 11], [8, 10]), ([11, 9, 12, 0, 1, 2, 3, 4, 5, 6, 7, 8, 9, 10, 11, 12], [9, 11])])
def laws_FnExactRelMeet.B1 : List Nat := [0, 0, 0, 4, 0, 28, 63, 127, 255, 255, 0, 0, 3583, 8191]
theorem laws_FnExactRelMeet.tab1 : rtab .any (opsOf Try.f3 1) = laws_FnExactRelMeet.T1 := by kernel_rfl
theorem laws_FnExactRelMeet.bits1 : waitsOk laws_FnExactRelMeet.T1.2 laws_FnExactRelMeet.B1 = true := by kernel_rfl
def laws_FnExactRelMeet.T2 : Bool × List (List Nat × List Nat) := (true, [([], []), ([], []), ([], []), ([2], [2]), ([], []), ([4, 3], [4]), ([0, 1, 3, 5, 5], [0, 1, 3, 5]), ([6], [6]), ([7], [7]), ([7], [7]), ([], []), ([], []), ([10, 8, 6, 0, 1, 2, 3, 4, 5, 6, 7, 8, 10, 11], [8, 10]), ([11, 9, 12, 0, 1, 2, 3, 4, 5, 6, 7, 8, 9, 10, 11, 12], [9, 11])])
def laws_FnExactRelMeet.B2 : List Nat := [0, 0, 0, 4, 0, 28, 63, 127, 255, 255, 0, 0, 3583, 8191]
theorem laws_FnExactRelMeet.tab2 : rtab .any (opsOf Try.f3 2) = laws_FnExactRelMeet.T2 := by kernel_rfl
theorem laws_FnExactRelMeet.bits2 : waitsOk laws_FnExactRelMeet.T2.2 laws_FnExactRelMeet.B2 = true := by kernel_rfl
set_option maxHeartbeats 8000000 in
set_option maxRecDepth 100000 in
theorem laws_FnExactRelMeet.calls (k : Nat) (a0 : Int) (a1 : Int) (a2_0 : Bool) (a2_1 : Int) (a2_2 : Int) (a3_0 : Bool) (a3_1 : Int) (a3_2 : Int) (r : Bool) (w : World) (h : laws_FnExactRelMeet.f k a0 a1 a2_0 a2_1 a2_2 a3_0 a3_1 a3_2 = some r) (hr : Aside0 (true = r)) :
  Calls Try.prog 3 #[.int .i64 a0, .int .i64 a1, .agg #[.bool a2_0, .int .i64 a2_1, .int .i64 a2_2], .agg #[.bool a3_0, .int .i64 a3_1, .int .i64 a3_2]] w fun e w' => e = .returned (.bool r) ∧ Below w.heap.size w w' := by
 have hu23 := Try.underlying23
 have hu24 := Try.underlying24
 have HB := A_ (Below.refl w.heap.size w)
 have H : ((laws_toSpan.f a2_0 a2_1 a2_2).bind fun bt266 => ((laws_toSpan.f a3_0 a3_1 a3_2).bind fun bt269 => ((spec_RelMeet.f k a0 a1 bt266.1 bt266.2.1 bt266.2.2 bt269.1 bt269.2.1 bt269.2.2).bind fun bt272 => ((laws_toSpan.f a2_0 a2_1 a2_2).bind fun bt280 => ((laws_toSpan.f a3_0 a3_1 a3_2).bind fun bt283 => ((impl_RelMeet.f k a0 a1 bt280.1 bt280.2.1 bt280.2.2 bt283.1 bt283.2.1 bt283.2.2).bind fun bt286 => ((laws_eqSpan.f bt286.1 bt286.2.1 bt286.2.2.1 bt272.1 bt272.2.1 bt272.2.2.1).bind fun t294 => (if t294 = true then ((laws_eqSpan.f bt286.2.2.2.1 bt286.2.2.2.2.1 bt286.2.2.2.2.2 bt272.2.2.2.1 bt272.2.2.2.2.1 bt272.2.2.2.2.2).bind fun t295 => (if t295 = true then (some true) else (some false))) else (some false))))))))) = some r := h
 clear h
 replace H := Option.bind_eq_some_iff.mp H
 obtain ⟨⟨t266, t267, t268⟩, A50, H⟩ := H
 replace H : ((laws_toSpan.f a3_0 a3_1 a3_2).bind fun bt269 => ((spec_RelMeet.f k a0 a1 t266 t267 t268 bt269.1 bt269.2.1 bt269.2.2).bind fun bt272 => ((laws_toSpan.f a2_0 a2_1 a2_2).bind fun bt280 => ((laws_toSpan.f a3_0 a3_1 a3_2).bind fun bt283 => ((impl_RelMeet.f k a0 a1 bt280.1 bt280.2.1 bt280.2.2 bt283.1 bt283.2.1 bt283.2.2).bind fun bt286 => ((laws_eqSpan.f bt286.1 bt286.2.1 bt286.2.2.1 bt272.1 bt272.2.1 bt272.2.2.1).bind fun t294 => (if t294 = true then ((laws_eqSpan.f bt286.2.2.2.1 bt286.2.2.2.2.1 bt286.2.2.2.2.2 bt272.2.2.2.1 bt272.2.2.2.2.1 bt272.2.2.2.2.2).bind fun t295 => (if t295 = true then (some true) else (some false))) else (some false)))))))) = some r := H
 have A5 := A_ A50
 clear A50
 replace H := Option.bind_eq_some_iff.mp H
 obtain ⟨⟨t269, t270, t271⟩, A60, H⟩ := H
 replace H : ((spec_RelMeet.f k a0 a1 t266 t267 t268 t269 t270 t271).bind fun bt272 => ((laws_toSpan.f a2_0 a2_1 a2_2).bind fun bt280 => ((laws_toSpan.f a3_0 a3_1 a3_2).bind fun bt283 => ((impl_RelMeet.f k a0 a1 bt280.1 bt280.2.1 bt280.2.2 bt283.1 bt283.2.1 bt283.2.2).bind fun bt286 => ((laws_eqSpan.f bt286.1 bt286.2.1 bt286.2.2.1 bt272.1 bt272.2.1 bt272.2.2.1).bind fun t294 => (if t294 = true then ((laws_eqSpan.f bt286.2.2.2.1 bt286.2.2.2.2.1 bt286.2.2.2.2.2 bt272.2.2.2.1 bt272.2.2.2.2.1 bt272.2.2.2.2.2).bind fun t295 => (if t295 = true then (some true) else (some false))) else (some false))))))) = some r := H
 have A6 := A_ A60
 clear A60
 replace H := Option.bind_eq_some_iff.mp H
 obtain ⟨⟨t272, t273, t274, t275, t276, t277⟩, A70, H⟩ := H
 replace H : ((laws_toSpan.f a2_0 a2_1 a2_2).bind fun bt280 => ((laws_toSpan.f a3_0 a3_1 a3_2).bind fun bt283 => ((impl_RelMeet.f k a0 a1 bt280.1 bt280.2.1 bt280.2.2 bt283.1 bt283.2.1 bt283.2.2).bind fun bt286 => ((laws_eqSpan.f bt286.1 bt286.2.1 bt286.2.2.1 t272 t273 t274).bind fun t294 => (if t294 = true then ((laws_eqSpan.f bt286.2.2.2.1 bt286.2.2.2.2.1 bt286.2.2.2.2.2 t275 t276 t277).bind fun t295 => (if t295 = true then (some true) else (some false))) else (some false)))))) = some r := H
 have A7 := A_ A70
 clear A70
 replace H := Option.bind_eq_some_iff.mp H
 obtain ⟨⟨t280, t281, t282⟩, A80, H⟩ := H
 replace H : ((laws_toSpan.f a3_0 a3_1 a3_2).bind fun bt283 => ((impl_RelMeet.f k a0 a1 t280 t281 t282 bt283.1 bt283.2.1 bt283.2.2).bind fun bt286 => ((laws_eqSpan.f bt286.1 bt286.2.1 bt286.2.2.1 t272 t273 t274).bind fun t294 => (if t294 = true then ((laws_eqSpan.f bt286.2.2.2.1 bt286.2.2.2.2.1 bt286.2.2.2.2.2 t275 t276 t277).bind fun t295 => (if t295 = true then (some true) else (some false))) else (some false))))) = some r := H
 have A8 := A_ A80
 clear A80
 have e_ := Option.some.inj (A5.out.symm.trans A8.out)
 simp only [Prod.mk.injEq] at e_
 obtain ⟨rfl, rfl, rfl⟩ := e_
 replace H := Option.bind_eq_some_iff.mp H
 obtain ⟨⟨t283, t284, t285⟩, A90, H⟩ := H
 replace H : ((impl_RelMeet.f k a0 a1 t266 t267 t268 t283 t284 t285).bind fun bt286 => ((laws_eqSpan.f bt286.1 bt286.2.1 bt286.2.2.1 t272 t273 t274).bind fun t294 => (if t294 = true then ((laws_eqSpan.f bt286.2.2.2.1 bt286.2.2.2.2.1 bt286.2.2.2.2.2 t275 t276 t277).bind fun t295 => (if t295 = true then (some true) else (some false))) else (some false)))) = some r := H
 have A9 := A_ A90
 clear A90
 have e_ := Option.some.inj (A6.out.symm.trans A9.out)
 simp only [Prod.mk.injEq] at e_
 obtain ⟨rfl, rfl, rfl⟩ := e_
 replace H := Option.bind_eq_some_iff.mp H
 obtain ⟨⟨t286, t287, t288, t289, t290, t291⟩, A100, H⟩ := H
 replace H : ((laws_eqSpan.f t286 t287 t288 t272 t273 t274).bind fun t294 => (if t294 = true then ((laws_eqSpan.f t289 t290 t291 t275 t276 t277).bind fun t295 => (if t295 = true then (some true) else (some false))) else (some false))) = some r := H
 have A10 := A_ A100
 clear A100
 replace H := Option.bind_eq_some_iff.mp H
 obtain ⟨t294, A110, H⟩ := H
 replace H : (if t294 = true then ((laws_eqSpan.f t289 t290 t291 t275 t276 t277).bind fun t295 => (if t295 = true then (some true) else (some false))) else (some false)) = some r := H
 have A11 := A_ A110
 clear A110
 by_cases c12 : t294 = true
 ·subst c12
  have H1 : ((laws_eqSpan.f t289 t290 t291 t275 t276 t277).bind fun t295 => (if t295 = true then (some true) else (some false))) = some r := by rw [if_pos rfl] at H; exact H
  clear H
  have H := H1
  clear H1
  replace H := Option.bind_eq_some_iff.mp H
  obtain ⟨t295, A130, H⟩ := H
  replace H : (if t295 = true then (some true) else (some false)) = some r := H
  have A13 := A_ A130
  clear A130
  by_cases c14 : t295 = true
  ·subst c14
   have H1 : (some true) = some r := by rw [if_pos rfl] at H; exact H
   clear H
   have H := H1
   clear H1
   clear hr
   obtain rfl := Option.some.inj H
   go_enter Try.func3, Try.ntmps3
   try go_wp2_with (first | ((with_reducible refine gate_dst (N := 6) rfl ?_); refine box_event ?hg (N := 6) ?hd (cs := #[.bool a2_0, .int .i64 a2_1, .int .i64 a2_2]) (t := 23) ?hr ?_; (case hd => rfl); (case hg => rfl); (case hr => first | (go_simp; done) | (go_simp; rfl)); intro gb264 hg w15 hbox hb; have n0_ := A_ (below_step (by repeat (first | (with_reducible first | exact HB.out | apply b1_ | apply b2_ | apply b3_) | exact HB.out)) hb); have n1_ := A_ (hbox); have n2_ := A_ (ge_ hg); have n3_ := n2_; clear HB; have HB := n0_; have BK264 := n1_; have GW264 := n2_; have GE264 := n3_; clear n0_ n1_ n2_ n3_; clear hb hbox hg) | ((with_reducible refine gate_dst (N := 7) rfl ?_); refine box_event ?hg (N := 7) ?hd (cs := #[.bool a3_0, .int .i64 a3_1, .int .i64 a3_2]) (t := 23) ?hr ?_; (case hd => rfl); (case hg => rfl); (case hr => first | (go_simp; done) | (go_simp; rfl)); intro gb265 hg w16 hbox hb; have n0_ := A_ (blk_below (bz_ BK264.out) hb); have n1_ := A_ (below_step (by repeat (first | (with_reducible first | exact HB.out | apply b1_ | apply b2_ | apply b3_ | apply c_ GE264) | exact HB.out)) hb); have n2_ := A_ (hbox); have n3_ := A_ (ge_ hg); have n4_ := n3_; have n5_ := A_ (nl_ hg (bz_ BK264.out)); have n6_ := A_ (ng_ hg (bz_ BK264.out)); clear BK264 HB; have BK264 := n0_; have HB := n1_; have BK265 := n2_; have GW265 := n3_; have GE265 := n4_; have NB264_265 := n5_; have NB265_264 := n6_; clear n0_ n1_ n2_ n3_ n4_ n5_ n6_; clear hb hbox hg))
   have n0_ := A_ (blk_drew BK264.out)
   have n1_ := A_ (blk_drew BK265.out)
   have n2_ := A_ (below_drew1 HB.out)
   clear BK264 BK265 HB
   have BK264 := n0_
   have BK265 := n1_
   have HB := n2_
   clear n0_ n1_ n2_
   refine start_ (n := 14) (S := fun w' => w'.cell? ⟨gb264, 0, none⟩ = some (.bool a2_0) ∧ w'.cell? ⟨gb264, 1, none⟩ = some (.int .i64 a2_1) ∧ w'.cell? ⟨gb264, 2, none⟩ = some (.int .i64 a2_2) ∧ w'.cell? ⟨gb265, 0, none⟩ = some (.bool a3_0) ∧ w'.cell? ⟨gb265, 1, none⟩ = some (.int .i64 a3_1) ∧ w'.cell? ⟨gb265, 2, none⟩ = some (.int .i64 a3_2)) (ds := []) #[false, false, false, false, false, false, false, false, false, false, false, false, false, false] (by kernel_rfl) rfl rfl ⟨bc_ BK264.out 0, bc_ BK264.out 1, bc_ BK264.out 2, bc_ BK265.out 0, bc_ BK265.out 1, bc_ BK265.out 2⟩ (fun hHeld => ?_); refine with_tabW laws_FnExactRelMeet.tab1 laws_FnExactRelMeet.bits1 (fun HT_ HW_ => ?_)
   generalize w16.drew = w17 at BK264 BK265 HB hHeld ⊢
   refine pure_ (i := 0) (N := some 14) (v := ?_) (a' := ?_) #[true, false, false, false, false, false, false, false, false, false, false, false, false, false] rfl rfl (any_of HT_.out (by kernel_rfl)) (fun _ _ _ h => h) (Or.inl ⟨by rfl, ?_⟩) ?_ ?_
   rotate_left
   ·intro w'
    go_simp
    with_reducible rfl
   rotate_left
   ·simp only [Act.put, x1_, x2_, x3_, i64_w, i32_w]
    rfl
   refine pure_ (i := 1) (N := some 15) (v := ?_) (a' := ?_) #[true, true, false, false, false, false, false, false, false, false, false, false, false, false] rfl rfl (any_of HT_.out (by kernel_rfl)) (fun _ _ _ h => h) (Or.inl ⟨by rfl, ?_⟩) ?_ ?_
   rotate_left
   ·intro w'
    go_simp
    with_reducible rfl
   rotate_left
   ·simp only [Act.put, x1_, x2_, x3_, i64_w, i32_w]
    rfl
   refine take_ (i := 2) (N := some 16) (v := ?_) (a' := ?_) #[true, true, true, false, false, false, false, false, false, false, false, false, false, false] rfl rfl (take_ofW HT_.out HW_.out (by kernel_rfl)) (fun _ _ _ h => h) (Or.inl ⟨by rfl, ?_⟩) hHeld ?_ ?_
   rotate_left
   ·rintro w' ⟨s0, s1, s2, s3, s4, s5⟩
    go_simp
    with_reducible rfl
   rotate_left
   ·simp only [Act.put, x1_, x2_, x3_, i64_w, i32_w]
    rfl
   refine take_ (i := 4) (N := some 18) (v := ?_) (a' := ?_) #[true, true, true, false, true, false, false, false, false, false, false, false, false, false] rfl rfl (take_ofW HT_.out HW_.out (by kernel_rfl)) (fun _ _ _ h => h) (Or.inl ⟨by rfl, ?_⟩) hHeld ?_ ?_
   rotate_left
   ·rintro w' ⟨s0, s1, s2, s3, s4, s5⟩
    go_simp
    with_reducible rfl
   rotate_left
   ·simp only [Act.put, x1_, x2_, x3_, i64_w, i32_w]
    rfl
   refine join_ (σ := Nat × Nat) 2 #[true, true, true, true, true, true, true, true, true, true, true, true, false, false] (fun s_ => [(17, .agg #[.bool t266, .int .i64 t267, .int .i64 t268]), (19, .agg #[.bool t269, .int .i64 t270, .int .i64 t271]), (20, .tuple #[.agg #[.bool t272, .int .i64 t273, .int .i64 t274], .agg #[.bool t275, .int .i64 t276, .int .i64 t277]]), (9, .pointer (some ⟨s_.1, 0, none⟩)), (10, .pointer (some ⟨s_.2, 0, none⟩)), (13, .tuple #[.agg #[.bool t272, .int .i64 t273, .int .i64 t274], .agg #[.bool t275, .int .i64 t276, .int .i64 t277]]), (21, .agg #[.bool t272, .int .i64 t273, .int .i64 t274]), (22, .agg #[.bool t275, .int .i64 t276, .int .i64 t277])]) (fun s_ w' => (w'.cell? ⟨gb264, 0, none⟩ = some (.bool a2_0) ∧ w'.cell? ⟨gb264, 1, none⟩ = some (.int .i64 a2_1) ∧ w'.cell? ⟨gb264, 2, none⟩ = some (.int .i64 a2_2) ∧ w'.cell? ⟨gb265, 0, none⟩ = some (.bool a3_0) ∧ w'.cell? ⟨gb265, 1, none⟩ = some (.int .i64 a3_1) ∧ w'.cell? ⟨gb265, 2, none⟩ = some (.int .i64 a3_2)) ∧ (w'.heap[gb264]? = some (.cells #[.bool a2_0, .int .i64 a2_1, .int .i64 a2_2] 23 (0, 0))) ∧ (w'.heap[gb265]? = some (.cells #[.bool a3_0, .int .i64 a3_1, .int .i64 a3_2] 23 (0, 0))) ∧ (w'.heap[s_.1]? = some (.cells #[.bool false, .int .i64 0, .int .i64 0] 24 (0, 0))) ∧ (w'.heap[s_.2]? = some (.cells #[.bool false, .int .i64 0, .int .i64 0] 24 (0, 0))) ∧ (w.heap.size ≤ s_.1) ∧ (w.heap.size ≤ s_.1) ∧ (gb264 ≠ s_.1) ∧ (s_.1 ≠ gb264) ∧ (gb265 ≠ s_.1) ∧ (s_.1 ≠ gb265) ∧ (s_.2 ≠ s_.1) ∧ (s_.1 ≠ s_.2) ∧ (w.heap.size ≤ s_.2) ∧ (w.heap.size ≤ s_.2) ∧ (gb264 ≠ s_.2) ∧ (s_.2 ≠ gb264) ∧ (gb265 ≠ s_.2) ∧ (s_.2 ≠ gb265) ∧ (Below w.heap.size w w')) ?_ ?_
   rotate_left
   ·intro hJ3_5_6_10_11
    refine join_ (σ := Nat) 3 #[true, true, true, true, true, true, true, true, true, true, true, false, false, false] (fun s_ => [(17, .agg #[.bool t266, .int .i64 t267, .int .i64 t268]), (19, .agg #[.bool t269, .int .i64 t270, .int .i64 t271]), (20, .tuple #[.agg #[.bool t272, .int .i64 t273, .int .i64 t274], .agg #[.bool t275, .int .i64 t276, .int .i64 t277]]), (9, .pointer (some ⟨s_, 0, none⟩)), (13, .tuple #[.agg #[.bool t272, .int .i64 t273, .int .i64 t274], .agg #[.bool t275, .int .i64 t276, .int .i64 t277]]), (21, .agg #[.bool t272, .int .i64 t273, .int .i64 t274]), (22, .agg #[.bool t275, .int .i64 t276, .int .i64 t277])]) (fun s_ w' => (w'.cell? ⟨gb264, 0, none⟩ = some (.bool a2_0) ∧ w'.cell? ⟨gb264, 1, none⟩ = some (.int .i64 a2_1) ∧ w'.cell? ⟨gb264, 2, none⟩ = some (.int .i64 a2_2) ∧ w'.cell? ⟨gb265, 0, none⟩ = some (.bool a3_0) ∧ w'.cell? ⟨gb265, 1, none⟩ = some (.int .i64 a3_1) ∧ w'.cell? ⟨gb265, 2, none⟩ = some (.int .i64 a3_2)) ∧ (w'.heap[gb264]? = some (.cells #[.bool a2_0, .int .i64 a2_1, .int .i64 a2_2] 23 (0, 0))) ∧ (w'.heap[gb265]? = some (.cells #[.bool a3_0, .int .i64 a3_1, .int .i64 a3_2] 23 (0, 0))) ∧ (w'.heap[s_]? = some (.cells #[.bool false, .int .i64 0, .int .i64 0] 24 (0, 0))) ∧ (w.heap.size ≤ s_) ∧ (w.heap.size ≤ s_) ∧ (gb264 ≠ s_) ∧ (s_ ≠ gb264) ∧ (gb265 ≠ s_) ∧ (s_ ≠ gb265) ∧ (Below w.heap.size w w')) ?_ ?_
    rotate_left
    ·intro hJ3_5_6_10
     refine join_ (σ := Nat) 3 #[true, true, true, true, true, true, true, true, true, true, false, true, false, false] (fun s_ => [(17, .agg #[.bool t266, .int .i64 t267, .int .i64 t268]), (19, .agg #[.bool t269, .int .i64 t270, .int .i64 t271]), (20, .tuple #[.agg #[.bool t272, .int .i64 t273, .int .i64 t274], .agg #[.bool t275, .int .i64 t276, .int .i64 t277]]), (10, .pointer (some ⟨s_, 0, none⟩)), (13, .tuple #[.agg #[.bool t272, .int .i64 t273, .int .i64 t274], .agg #[.bool t275, .int .i64 t276, .int .i64 t277]]), (21, .agg #[.bool t272, .int .i64 t273, .int .i64 t274]), (22, .agg #[.bool t275, .int .i64 t276, .int .i64 t277])]) (fun s_ w' => (w'.cell? ⟨gb264, 0, none⟩ = some (.bool a2_0) ∧ w'.cell? ⟨gb264, 1, none⟩ = some (.int .i64 a2_1) ∧ w'.cell? ⟨gb264, 2, none⟩ = some (.int .i64 a2_2) ∧ w'.cell? ⟨gb265, 0, none⟩ = some (.bool a3_0) ∧ w'.cell? ⟨gb265, 1, none⟩ = some (.int .i64 a3_1) ∧ w'.cell? ⟨gb265, 2, none⟩ = some (.int .i64 a3_2)) ∧ (w'.heap[gb264]? = some (.cells #[.bool a2_0, .int .i64 a2_1, .int .i64 a2_2] 23 (0, 0))) ∧ (w'.heap[gb265]? = some (.cells #[.bool a3_0, .int .i64 a3_1, .int .i64 a3_2] 23 (0, 0))) ∧ (w'.heap[s_]? = some (.cells #[.bool false, .int .i64 0, .int .i64 0] 24 (0, 0))) ∧ (w.heap.size ≤ s_) ∧ (w.heap.size ≤ s_) ∧ (gb264 ≠ s_) ∧ (s_ ≠ gb264) ∧ (gb265 ≠ s_) ∧ (s_ ≠ gb265) ∧ (Below w.heap.size w w')) ?_ ?_
     rotate_left
     ·intro hJ3_5_6_11
      refine join_ (σ := Nat × Nat) 6 #[true, true, true, true, true, true, false, false, false, false, true, true, false, false] (fun s_ => [(17, .agg #[.bool t266, .int .i64 t267, .int .i64 t268]), (19, .agg #[.bool t269, .int .i64 t270, .int .i64 t271]), (9, .pointer (some ⟨s_.1, 0, none⟩)), (10, .pointer (some ⟨s_.2, 0, none⟩))]) (fun s_ w' => (w'.cell? ⟨gb264, 0, none⟩ = some (.bool a2_0) ∧ w'.cell? ⟨gb264, 1, none⟩ = some (.int .i64 a2_1) ∧ w'.cell? ⟨gb264, 2, none⟩ = some (.int .i64 a2_2) ∧ w'.cell? ⟨gb265, 0, none⟩ = some (.bool a3_0) ∧ w'.cell? ⟨gb265, 1, none⟩ = some (.int .i64 a3_1) ∧ w'.cell? ⟨gb265, 2, none⟩ = some (.int .i64 a3_2)) ∧ (w'.heap[gb264]? = some (.cells #[.bool a2_0, .int .i64 a2_1, .int .i64 a2_2] 23 (0, 0))) ∧ (w'.heap[gb265]? = some (.cells #[.bool a3_0, .int .i64 a3_1, .int .i64 a3_2] 23 (0, 0))) ∧ (w'.heap[s_.1]? = some (.cells #[.bool false, .int .i64 0, .int .i64 0] 24 (0, 0))) ∧ (w'.heap[s_.2]? = some (.cells #[.bool false, .int .i64 0, .int .i64 0] 24 (0, 0))) ∧ (w.heap.size ≤ s_.1) ∧ (w.heap.size ≤ s_.1) ∧ (gb264 ≠ s_.1) ∧ (s_.1 ≠ gb264) ∧ (gb265 ≠ s_.1) ∧ (s_.1 ≠ gb265) ∧ (s_.2 ≠ s_.1) ∧ (s_.1 ≠ s_.2) ∧ (w.heap.size ≤ s_.2) ∧ (w.heap.size ≤ s_.2) ∧ (gb264 ≠ s_.2) ∧ (s_.2 ≠ gb264) ∧ (gb265 ≠ s_.2) ∧ (s_.2 ≠ gb265) ∧ (Below w.heap.size w w')) ?_ ?_
      rotate_left
      ·intro hJ3_5_10_11
       refine join_ (σ := Unit) 4 #[true, true, true, true, true, true, true, true, true, true, false, false, false, false] (fun s_ => [(17, .agg #[.bool t266, .int .i64 t267, .int .i64 t268]), (19, .agg #[.bool t269, .int .i64 t270, .int .i64 t271]), (20, .tuple #[.agg #[.bool t272, .int .i64 t273, .int .i64 t274], .agg #[.bool t275, .int .i64 t276, .int .i64 t277]]), (13, .tuple #[.agg #[.bool t272, .int .i64 t273, .int .i64 t274], .agg #[.bool t275, .int .i64 t276, .int .i64 t277]]), (21, .agg #[.bool t272, .int .i64 t273, .int .i64 t274]), (22, .agg #[.bool t275, .int .i64 t276, .int .i64 t277])]) (fun s_ w' => (w'.cell? ⟨gb264, 0, none⟩ = some (.bool a2_0) ∧ w'.cell? ⟨gb264, 1, none⟩ = some (.int .i64 a2_1) ∧ w'.cell? ⟨gb264, 2, none⟩ = some (.int .i64 a2_2) ∧ w'.cell? ⟨gb265, 0, none⟩ = some (.bool a3_0) ∧ w'.cell? ⟨gb265, 1, none⟩ = some (.int .i64 a3_1) ∧ w'.cell? ⟨gb265, 2, none⟩ = some (.int .i64 a3_2)) ∧ (w'.heap[gb264]? = some (.cells #[.bool a2_0, .int .i64 a2_1, .int .i64 a2_2] 23 (0, 0))) ∧ (w'.heap[gb265]? = some (.cells #[.bool a3_0, .int .i64 a3_1, .int .i64 a3_2] 23 (0, 0))) ∧ (Below w.heap.size w w')) ?_ ?_
       rotate_left
       ·intro hJ3_5_6
        refine join_ (σ := Nat) 7 #[true, true, true, true, true, true, false, false, false, false, true, false, false, false] (fun s_ => [(17, .agg #[.bool t266, .int .i64 t267, .int .i64 t268]), (19, .agg #[.bool t269, .int .i64 t270, .int .i64 t271]), (9, .pointer (some ⟨s_, 0, none⟩))]) (fun s_ w' => (w'.cell? ⟨gb264, 0, none⟩ = some (.bool a2_0) ∧ w'.cell? ⟨gb264, 1, none⟩ = some (.int .i64 a2_1) ∧ w'.cell? ⟨gb264, 2, none⟩ = some (.int .i64 a2_2) ∧ w'.cell? ⟨gb265, 0, none⟩ = some (.bool a3_0) ∧ w'.cell? ⟨gb265, 1, none⟩ = some (.int .i64 a3_1) ∧ w'.cell? ⟨gb265, 2, none⟩ = some (.int .i64 a3_2)) ∧ (w'.heap[gb264]? = some (.cells #[.bool a2_0, .int .i64 a2_1, .int .i64 a2_2] 23 (0, 0))) ∧ (w'.heap[gb265]? = some (.cells #[.bool a3_0, .int .i64 a3_1, .int .i64 a3_2] 23 (0, 0))) ∧ (w'.heap[s_]? = some (.cells #[.bool false, .int .i64 0, .int .i64 0] 24 (0, 0))) ∧ (w.heap.size ≤ s_) ∧ (w.heap.size ≤ s_) ∧ (gb264 ≠ s_) ∧ (s_ ≠ gb264) ∧ (gb265 ≠ s_) ∧ (s_ ≠ gb265) ∧ (Below w.heap.size w w')) ?_ ?_
        rotate_left
        ·intro hJ3_5_10
         refine join_ (σ := Nat) 7 #[true, true, true, true, true, true, false, false, false, false, false, true, false, false] (fun s_ => [(17, .agg #[.bool t266, .int .i64 t267, .int .i64 t268]), (19, .agg #[.bool t269, .int .i64 t270, .int .i64 t271]), (10, .pointer (some ⟨s_, 0, none⟩))]) (fun s_ w' => (w'.cell? ⟨gb264, 0, none⟩ = some (.bool a2_0) ∧ w'.cell? ⟨gb264, 1, none⟩ = some (.int .i64 a2_1) ∧ w'.cell? ⟨gb264, 2, none⟩ = some (.int .i64 a2_2) ∧ w'.cell? ⟨gb265, 0, none⟩ = some (.bool a3_0) ∧ w'.cell? ⟨gb265, 1, none⟩ = some (.int .i64 a3_1) ∧ w'.cell? ⟨gb265, 2, none⟩ = some (.int .i64 a3_2)) ∧ (w'.heap[gb264]? = some (.cells #[.bool a2_0, .int .i64 a2_1, .int .i64 a2_2] 23 (0, 0))) ∧ (w'.heap[gb265]? = some (.cells #[.bool a3_0, .int .i64 a3_1, .int .i64 a3_2] 23 (0, 0))) ∧ (w'.heap[s_]? = some (.cells #[.bool false, .int .i64 0, .int .i64 0] 24 (0, 0))) ∧ (w.heap.size ≤ s_) ∧ (w.heap.size ≤ s_) ∧ (gb264 ≠ s_) ∧ (s_ ≠ gb264) ∧ (gb265 ≠ s_) ∧ (s_ ≠ gb265) ∧ (Below w.heap.size w w')) ?_ ?_
         rotate_left
         ·intro hJ3_5_11
          refine join_ (σ := Nat × Nat) 7 #[true, true, true, true, true, false, false, false, false, false, true, true, false, false] (fun s_ => [(17, .agg #[.bool t266, .int .i64 t267, .int .i64 t268]), (9, .pointer (some ⟨s_.1, 0, none⟩)), (10, .pointer (some ⟨s_.2, 0, none⟩))]) (fun s_ w' => (w'.cell? ⟨gb264, 0, none⟩ = some (.bool a2_0) ∧ w'.cell? ⟨gb264, 1, none⟩ = some (.int .i64 a2_1) ∧ w'.cell? ⟨gb264, 2, none⟩ = some (.int .i64 a2_2) ∧ w'.cell? ⟨gb265, 0, none⟩ = some (.bool a3_0) ∧ w'.cell? ⟨gb265, 1, none⟩ = some (.int .i64 a3_1) ∧ w'.cell? ⟨gb265, 2, none⟩ = some (.int .i64 a3_2)) ∧ (w'.heap[gb264]? = some (.cells #[.bool a2_0, .int .i64 a2_1, .int .i64 a2_2] 23 (0, 0))) ∧ (w'.heap[gb265]? = some (.cells #[.bool a3_0, .int .i64 a3_1, .int .i64 a3_2] 23 (0, 0))) ∧ (w'.heap[s_.1]? = some (.cells #[.bool false, .int .i64 0, .int .i64 0] 24 (0, 0))) ∧ (w'.heap[s_.2]? = some (.cells #[.bool false, .int .i64 0, .int .i64 0] 24 (0, 0))) ∧ (w.heap.size ≤ s_.1) ∧ (w.heap.size ≤ s_.1) ∧ (gb264 ≠ s_.1) ∧ (s_.1 ≠ gb264) ∧ (gb265 ≠ s_.1) ∧ (s_.1 ≠ gb265) ∧ (s_.2 ≠ s_.1) ∧ (s_.1 ≠ s_.2) ∧ (w.heap.size ≤ s_.2) ∧ (w.heap.size ≤ s_.2) ∧ (gb264 ≠ s_.2) ∧ (s_.2 ≠ gb264) ∧ (gb265 ≠ s_.2) ∧ (s_.2 ≠ gb265) ∧ (Below w.heap.size w w')) ?_ ?_
          rotate_left
          ·intro hJ3_10_11
           refine join_ (σ := Unit) 8 #[true, true, true, true, true, true, false, false, false, false, false, false, false, false] (fun s_ => [(17, .agg #[.bool t266, .int .i64 t267, .int .i64 t268]), (19, .agg #[.bool t269, .int .i64 t270, .int .i64 t271])]) (fun s_ w' => (w'.cell? ⟨gb264, 0, none⟩ = some (.bool a2_0) ∧ w'.cell? ⟨gb264, 1, none⟩ = some (.int .i64 a2_1) ∧ w'.cell? ⟨gb264, 2, none⟩ = some (.int .i64 a2_2) ∧ w'.cell? ⟨gb265, 0, none⟩ = some (.bool a3_0) ∧ w'.cell? ⟨gb265, 1, none⟩ = some (.int .i64 a3_1) ∧ w'.cell? ⟨gb265, 2, none⟩ = some (.int .i64 a3_2)) ∧ (w'.heap[gb264]? = some (.cells #[.bool a2_0, .int .i64 a2_1, .int .i64 a2_2] 23 (0, 0))) ∧ (w'.heap[gb265]? = some (.cells #[.bool a3_0, .int .i64 a3_1, .int .i64 a3_2] 23 (0, 0))) ∧ (Below w.heap.size w w')) ?_ ?_
           rotate_left
           ·intro hJ3_5
            refine join_ (σ := Nat) 8 #[true, true, true, true, true, false, false, false, false, false, true, false, false, false] (fun s_ => [(17, .agg #[.bool t266, .int .i64 t267, .int .i64 t268]), (9, .pointer (some ⟨s_, 0, none⟩))]) (fun s_ w' => (w'.cell? ⟨gb264, 0, none⟩ = some (.bool a2_0) ∧ w'.cell? ⟨gb264, 1, none⟩ = some (.int .i64 a2_1) ∧ w'.cell? ⟨gb264, 2, none⟩ = some (.int .i64 a2_2) ∧ w'.cell? ⟨gb265, 0, none⟩ = some (.bool a3_0) ∧ w'.cell? ⟨gb265, 1, none⟩ = some (.int .i64 a3_1) ∧ w'.cell? ⟨gb265, 2, none⟩ = some (.int .i64 a3_2)) ∧ (w'.heap[gb264]? = some (.cells #[.bool a2_0, .int .i64 a2_1, .int .i64 a2_2] 23 (0, 0))) ∧ (w'.heap[gb265]? = some (.cells #[.bool a3_0, .int .i64 a3_1, .int .i64 a3_2] 23 (0, 0))) ∧ (w'.heap[s_]? = some (.cells #[.bool false, .int .i64 0, .int .i64 0] 24 (0, 0))) ∧ (w.heap.size ≤ s_) ∧ (w.heap.size ≤ s_) ∧ (gb264 ≠ s_) ∧ (s_ ≠ gb264) ∧ (gb265 ≠ s_) ∧ (s_ ≠ gb265) ∧ (Below w.heap.size w w')) ?_ ?_
            rotate_left
            ·intro hJ3_10
             refine join_ (σ := Nat) 8 #[true, true, true, true, true, false, false, false, false, false, false, true, false, false] (fun s_ => [(17, .agg #[.bool t266, .int .i64 t267, .int .i64 t268]), (10, .pointer (some ⟨s_, 0, none⟩))]) (fun s_ w' => (w'.cell? ⟨gb264, 0, none⟩ = some (.bool a2_0) ∧ w'.cell? ⟨gb264, 1, none⟩ = some (.int .i64 a2_1) ∧ w'.cell? ⟨gb264, 2, none⟩ = some (.int .i64 a2_2) ∧ w'.cell? ⟨gb265, 0, none⟩ = some (.bool a3_0) ∧ w'.cell? ⟨gb265, 1, none⟩ = some (.int .i64 a3_1) ∧ w'.cell? ⟨gb265, 2, none⟩ = some (.int .i64 a3_2)) ∧ (w'.heap[gb264]? = some (.cells #[.bool a2_0, .int .i64 a2_1, .int .i64 a2_2] 23 (0, 0))) ∧ (w'.heap[gb265]? = some (.cells #[.bool a3_0, .int .i64 a3_1, .int .i64 a3_2] 23 (0, 0))) ∧ (w'.heap[s_]? = some (.cells #[.bool false, .int .i64 0, .int .i64 0] 24 (0, 0))) ∧ (w.heap.size ≤ s_) ∧ (w.heap.size ≤ s_) ∧ (gb264 ≠ s_) ∧ (s_ ≠ gb264) ∧ (gb265 ≠ s_) ∧ (s_ ≠ gb265) ∧ (Below w.heap.size w w')) ?_ ?_
             rotate_left
             ·intro hJ3_11
              refine join_ (σ := Nat × Nat) 8 #[true, true, true, false, true, false, false, false, false, false, true, true, false, false] (fun s_ => [(9, .pointer (some ⟨s_.1, 0, none⟩)), (10, .pointer (some ⟨s_.2, 0, none⟩))]) (fun s_ w' => (w'.cell? ⟨gb264, 0, none⟩ = some (.bool a2_0) ∧ w'.cell? ⟨gb264, 1, none⟩ = some (.int .i64 a2_1) ∧ w'.cell? ⟨gb264, 2, none⟩ = some (.int .i64 a2_2) ∧ w'.cell? ⟨gb265, 0, none⟩ = some (.bool a3_0) ∧ w'.cell? ⟨gb265, 1, none⟩ = some (.int .i64 a3_1) ∧ w'.cell? ⟨gb265, 2, none⟩ = some (.int .i64 a3_2)) ∧ (w'.heap[gb264]? = some (.cells #[.bool a2_0, .int .i64 a2_1, .int .i64 a2_2] 23 (0, 0))) ∧ (w'.heap[gb265]? = some (.cells #[.bool a3_0, .int .i64 a3_1, .int .i64 a3_2] 23 (0, 0))) ∧ (w'.heap[s_.1]? = some (.cells #[.bool false, .int .i64 0, .int .i64 0] 24 (0, 0))) ∧ (w'.heap[s_.2]? = some (.cells #[.bool false, .int .i64 0, .int .i64 0] 24 (0, 0))) ∧ (w.heap.size ≤ s_.1) ∧ (w.heap.size ≤ s_.1) ∧ (gb264 ≠ s_.1) ∧ (s_.1 ≠ gb264) ∧ (gb265 ≠ s_.1) ∧ (s_.1 ≠ gb265) ∧ (s_.2 ≠ s_.1) ∧ (s_.1 ≠ s_.2) ∧ (w.heap.size ≤ s_.2) ∧ (w.heap.size ≤ s_.2) ∧ (gb264 ≠ s_.2) ∧ (s_.2 ≠ gb264) ∧ (gb265 ≠ s_.2) ∧ (s_.2 ≠ gb265) ∧ (Below w.heap.size w w')) ?_ ?_
              rotate_left
              ·intro hJ10_11
               refine join_ (σ := Unit) 9 #[true, true, true, true, true, false, false, false, false, false, false, false, false, false] (fun s_ => [(17, .agg #[.bool t266, .int .i64 t267, .int .i64 t268])]) (fun s_ w' => (w'.cell? ⟨gb264, 0, none⟩ = some (.bool a2_0) ∧ w'.cell? ⟨gb264, 1, none⟩ = some (.int .i64 a2_1) ∧ w'.cell? ⟨gb264, 2, none⟩ = some (.int .i64 a2_2) ∧ w'.cell? ⟨gb265, 0, none⟩ = some (.bool a3_0) ∧ w'.cell? ⟨gb265, 1, none⟩ = some (.int .i64 a3_1) ∧ w'.cell? ⟨gb265, 2, none⟩ = some (.int .i64 a3_2)) ∧ (w'.heap[gb264]? = some (.cells #[.bool a2_0, .int .i64 a2_1, .int .i64 a2_2] 23 (0, 0))) ∧ (w'.heap[gb265]? = some (.cells #[.bool a3_0, .int .i64 a3_1, .int .i64 a3_2] 23 (0, 0))) ∧ (Below w.heap.size w w')) ?_ ?_
               rotate_left
               ·intro hJ3
                refine join_ (σ := Nat) 9 #[true, true, true, false, true, false, false, false, false, false, true, false, false, false] (fun s_ => [(9, .pointer (some ⟨s_, 0, none⟩))]) (fun s_ w' => (w'.cell? ⟨gb264, 0, none⟩ = some (.bool a2_0) ∧ w'.cell? ⟨gb264, 1, none⟩ = some (.int .i64 a2_1) ∧ w'.cell? ⟨gb264, 2, none⟩ = some (.int .i64 a2_2) ∧ w'.cell? ⟨gb265, 0, none⟩ = some (.bool a3_0) ∧ w'.cell? ⟨gb265, 1, none⟩ = some (.int .i64 a3_1) ∧ w'.cell? ⟨gb265, 2, none⟩ = some (.int .i64 a3_2)) ∧ (w'.heap[gb264]? = some (.cells #[.bool a2_0, .int .i64 a2_1, .int .i64 a2_2] 23 (0, 0))) ∧ (w'.heap[gb265]? = some (.cells #[.bool a3_0, .int .i64 a3_1, .int .i64 a3_2] 23 (0, 0))) ∧ (w'.heap[s_]? = some (.cells #[.bool false, .int .i64 0, .int .i64 0] 24 (0, 0))) ∧ (w.heap.size ≤ s_) ∧ (w.heap.size ≤ s_) ∧ (gb264 ≠ s_) ∧ (s_ ≠ gb264) ∧ (gb265 ≠ s_) ∧ (s_ ≠ gb265) ∧ (Below w.heap.size w w')) ?_ ?_
                rotate_left
                ·intro hJ10
                 refine join_ (σ := Nat) 9 #[true, true, true, false, true, false, false, false, false, false, false, true, false, false] (fun s_ => [(10, .pointer (some ⟨s_, 0, none⟩))]) (fun s_ w' => (w'.cell? ⟨gb264, 0, none⟩ = some (.bool a2_0) ∧ w'.cell? ⟨gb264, 1, none⟩ = some (.int .i64 a2_1) ∧ w'.cell? ⟨gb264, 2, none⟩ = some (.int .i64 a2_2) ∧ w'.cell? ⟨gb265, 0, none⟩ = some (.bool a3_0) ∧ w'.cell? ⟨gb265, 1, none⟩ = some (.int .i64 a3_1) ∧ w'.cell? ⟨gb265, 2, none⟩ = some (.int .i64 a3_2)) ∧ (w'.heap[gb264]? = some (.cells #[.bool a2_0, .int .i64 a2_1, .int .i64 a2_2] 23 (0, 0))) ∧ (w'.heap[gb265]? = some (.cells #[.bool a3_0, .int .i64 a3_1, .int .i64 a3_2] 23 (0, 0))) ∧ (w'.heap[s_]? = some (.cells #[.bool false, .int .i64 0, .int .i64 0] 24 (0, 0))) ∧ (w.heap.size ≤ s_) ∧ (w.heap.size ≤ s_) ∧ (gb264 ≠ s_) ∧ (s_ ≠ gb264) ∧ (gb265 ≠ s_) ∧ (s_ ≠ gb265) ∧ (Below w.heap.size w w')) ?_ ?_
                 rotate_left
                 ·intro hJ11
                  refine three_ (i := 3) (j := 10) (k := 11) (Ni := some 17) (Nj := some 9) (Nk := some 10) #[true, true, true, true, true, false, false, false, false, false, false, false, false, false] #[true, true, true, false, true, false, false, false, false, false, true, false, false, false] #[true, true, true, false, true, false, false, false, false, false, false, true, false, false] rfl rfl rfl rfl rfl rfl (three_of HT_.out (by kernel_rfl)) (by decide) (by decide) (by decide) (fun K hK => ?_) (fun K hK => ?_) (fun K hK => ?_)
                  ·skip
                   refine goes_ Try.func10 (by kernel_rfl) rfl #[.agg #[.bool a2_0, .int .i64 a2_1, .int .i64 a2_2]] (by rfl) rfl rfl (by (try simp only [List.map_toArray, List.map_cons, List.map_nil]); first | done | rfl) ?_
                   with_reducible refine (laws_toSpan.calls a2_0 a2_1 a2_2 t266 t267 t268 _ A5.out).mono ?_
                   rintro e w18 ⟨rfl, hb⟩
                   refine ⟨_, rfl, ?_⟩
                   have n0_ := A_ (blk_below (bz_ BK264.out) hb)
                   have n1_ := A_ (blk_below (bz_ BK265.out) hb)
                   have n2_ := A_ (below_step (by repeat (first | (with_reducible first | exact HB.out | apply b1_ | apply b2_ | apply b3_ | apply c_ GE264 | apply c_ GE265) | exact HB.out)) hb)
                   clear BK264 BK265 HB
                   have BK264 := n0_
                   have BK265 := n1_
                   have HB := n2_
                   clear n0_ n1_ n2_
                   (try clear hb)
                   (try clear hb2)
                   (try clear hk)
                   (try clear hi)
                   refine hK.out _ _ ⟨bc_ BK264.out 0, bc_ BK264.out 1, bc_ BK264.out 2, bc_ BK265.out 0, bc_ BK265.out 1, bc_ BK265.out 2⟩ (fun hHeld => ?_)
                   clear hK K
                   refine norm_ (a' := ?_) ?_ ?_
                   rotate_left
                   ·show Act.put _ (some 17) _ = _
                    simp only [Act.put, x1_, x2_, x3_, i64_w, i32_w]
                    rfl
                   exact norm_ (by simp only [putAll, Act.put, x1_, x2_, x3_] <;> rfl) (hJ3 () _ ⟨hHeld, (bz_ BK264.out), (bz_ BK265.out), (by repeat (first | (with_reducible first | exact HB.out | apply b1_ | apply b2_ | apply b3_ | apply c_ GE264 | apply c_ GE265) | exact HB.out))⟩)
                  ·skip
                   refine box_step ?hg (N := 9) ?hd (cs := #[.bool false, .int .i64 0, .int .i64 0]) (t := 24) ?hr ?_; (case hd => rfl); (case hg => rfl); (case hr => first | (go_simp; done) | (go_simp; rfl))
                   intro gb278 hg w18 hbox hb
                   have n0_ := A_ (blk_below (bz_ BK264.out) hb)
                   have n1_ := A_ (blk_below (bz_ BK265.out) hb)
                   have n2_ := A_ (below_step (by repeat (first | (with_reducible first | exact HB.out | apply b1_ | apply b2_ | apply b3_ | apply c_ GE264 | apply c_ GE265) | exact HB.out)) hb)
                   have n3_ := A_ (hbox)
                   have n4_ := A_ (ge_ hg)
                   have GE278 := n4_
                   have NB264_278 := A_ (nl_ hg (bz_ BK264.out))
                   have NB278_264 := A_ (ng_ hg (bz_ BK264.out))
                   have NB265_278 := A_ (nl_ hg (bz_ BK265.out))
                   have NB278_265 := A_ (ng_ hg (bz_ BK265.out))
                   clear BK264 BK265 HB
                   have BK264 := n0_
                   have BK265 := n1_
                   have HB := n2_
                   have BK278 := n3_
                   have GW278 := n4_
                   clear n0_ n1_ n2_ n3_ n4_
                   clear hb hbox hg
                   refine hK.out _ _ ⟨bc_ BK264.out 0, bc_ BK264.out 1, bc_ BK264.out 2, bc_ BK265.out 0, bc_ BK265.out 1, bc_ BK265.out 2⟩ (fun hHeld => ?_)
                   clear hK K
                   refine norm_ (a' := ?_) ?_ ?_
                   rotate_left
                   ·show Act.put _ (some 9) _ = _
                    simp only [Act.put, x1_, x2_, x3_, i64_w, i32_w]
                    rfl
                   exact norm_ (by simp only [putAll, Act.put, x1_, x2_, x3_] <;> rfl) (hJ10 (gb278) _ ⟨hHeld, (bz_ BK264.out), (bz_ BK265.out), (bz_ BK278.out), GW278.out, GE278.out, NB264_278.out, NB278_264.out, NB265_278.out, NB278_265.out, (by repeat (first | (with_reducible first | exact HB.out | apply b1_ | apply b2_ | apply b3_ | apply c_ GE264 | apply c_ GE265 | apply c_ GE278) | exact HB.out))⟩)
                  ·skip
                   refine box_step ?hg (N := 10) ?hd (cs := #[.bool false, .int .i64 0, .int .i64 0]) (t := 24) ?hr ?_; (case hd => rfl); (case hg => rfl); (case hr => first | (go_simp; done) | (go_simp; rfl))
                   intro gb279 hg w18 hbox hb
                   have n0_ := A_ (blk_below (bz_ BK264.out) hb)
                   have n1_ := A_ (blk_below (bz_ BK265.out) hb)
                   have n2_ := A_ (below_step (by repeat (first | (with_reducible first | exact HB.out | apply b1_ | apply b2_ | apply b3_ | apply c_ GE264 | apply c_ GE265) | exact HB.out)) hb)
                   have n3_ := A_ (hbox)
                   have n4_ := A_ (ge_ hg)
                   have GE279 := n4_
                   have NB264_279 := A_ (nl_ hg (bz_ BK264.out))
                   have NB279_264 := A_ (ng_ hg (bz_ BK264.out))
                   have NB265_279 := A_ (nl_ hg (bz_ BK265.out))
                   have NB279_265 := A_ (ng_ hg (bz_ BK265.out))
                   clear BK264 BK265 HB
                   have BK264 := n0_
                   have BK265 := n1_
                   have HB := n2_
                   have BK279 := n3_
                   have GW279 := n4_
                   clear n0_ n1_ n2_ n3_ n4_
                   clear hb hbox hg
                   refine hK.out _ _ ⟨bc_ BK264.out 0, bc_ BK264.out 1, bc_ BK264.out 2, bc_ BK265.out 0, bc_ BK265.out 1, bc_ BK265.out 2⟩ (fun hHeld => ?_)
                   clear hK K
                   refine norm_ (a' := ?_) ?_ ?_
                   rotate_left
                   ·show Act.put _ (some 10) _ = _
                    simp only [Act.put, x1_, x2_, x3_, i64_w, i32_w]
                    rfl
                   exact norm_ (by simp only [putAll, Act.put, x1_, x2_, x3_] <;> rfl) (hJ11 (gb279) _ ⟨hHeld, (bz_ BK264.out), (bz_ BK265.out), (bz_ BK279.out), GW279.out, GE279.out, NB264_279.out, NB279_264.out, NB265_279.out, NB279_265.out, (by repeat (first | (with_reducible first | exact HB.out | apply b1_ | apply b2_ | apply b3_ | apply c_ GE264 | apply c_ GE265 | apply c_ GE279) | exact HB.out))⟩)
                 ·skip
                  rintro gb279 w19 ⟨hS_, h0_, h1_, h2_, h3_, h4_, h5_, h6_, h7_, h8_, h9_⟩
                  have n0_ : Aside0 (w19.heap[gb264]? = some (.cells #[.bool a2_0, .int .i64 a2_1, .int .i64 a2_2] 23 (0, 0))) := ⟨h0_⟩
                  have n1_ : Aside0 (w19.heap[gb265]? = some (.cells #[.bool a3_0, .int .i64 a3_1, .int .i64 a3_2] 23 (0, 0))) := ⟨h1_⟩
                  have n2_ : Aside0 (w19.heap[gb279]? = some (.cells #[.bool false, .int .i64 0, .int .i64 0] 24 (0, 0))) := ⟨h2_⟩
                  have GW279 : Aside0 (w.heap.size ≤ gb279) := ⟨h3_⟩
                  have GE279 : Aside0 (w.heap.size ≤ gb279) := ⟨h4_⟩
                  have NB264_279 := A_ h5_
                  have NB279_264 := A_ h6_
                  have NB265_279 := A_ h7_
                  have NB279_265 := A_ h8_
                  have n9_ : Aside0 (Below w.heap.size w w19) := ⟨h9_⟩
                  clear BK264 BK265 HB
                  clear h0_ h1_ h2_ h3_ h4_ h5_ h6_ h7_ h8_ h9_
                  have BK264 := n0_
                  have BK265 := n1_
                  have BK279 := n2_
                  have HB := n9_
                  clear n0_ n1_ n2_ n9_
                  have hHeld : w19.cell? ⟨gb264, 0, none⟩ = some (.bool a2_0) ∧ w19.cell? ⟨gb264, 1, none⟩ = some (.int .i64 a2_1) ∧ w19.cell? ⟨gb264, 2, none⟩ = some (.int .i64 a2_2) ∧ w19.cell? ⟨gb265, 0, none⟩ = some (.bool a3_0) ∧ w19.cell? ⟨gb265, 1, none⟩ = some (.int .i64 a3_1) ∧ w19.cell? ⟨gb265, 2, none⟩ = some (.int .i64 a3_2) := hS_
                  refine norm_ (a' := ?_) ?_ ?_
                  rotate_left
                  ·simp only [putAll, Act.put, List.setIfInBounds_toArray, List.set_cons_zero, List.set_cons_succ]
                   rfl
                  refine two_ (i := 3) (j := 10) (Ni := some 17) (Nj := some 9) #[true, true, true, true, true, false, false, false, false, false, false, true, false, false] #[true, true, true, false, true, false, false, false, false, false, true, true, false, false] rfl rfl rfl rfl (two_of HT_.out (by kernel_rfl)) (by decide) (by decide) (fun K hK => ?_) (fun K hK => ?_)
                  ·skip
                   refine goes_ Try.func10 (by kernel_rfl) rfl #[.agg #[.bool a2_0, .int .i64 a2_1, .int .i64 a2_2]] (by rfl) rfl rfl (by (try simp only [List.map_toArray, List.map_cons, List.map_nil]); first | done | rfl) ?_
                   with_reducible refine (laws_toSpan.calls a2_0 a2_1 a2_2 t266 t267 t268 _ A5.out).mono ?_
                   rintro e w20 ⟨rfl, hb⟩
                   refine ⟨_, rfl, ?_⟩
                   have n0_ := A_ (blk_below (bz_ BK264.out) hb)
                   have n1_ := A_ (blk_below (bz_ BK265.out) hb)
                   have n2_ := A_ (blk_below (bz_ BK279.out) hb)
                   have n3_ := A_ (below_step (by repeat (first | (with_reducible first | exact HB.out | apply b1_ | apply b2_ | apply b3_ | apply c_ GE264 | apply c_ GE265 | apply c_ GE279) | exact HB.out)) hb)
                   clear BK264 BK265
                   clear BK279 HB
                   have BK264 := n0_
                   have BK265 := n1_
                   have BK279 := n2_
                   have HB := n3_
                   clear n0_ n1_ n2_ n3_
                   (try clear hb)
                   (try clear hb2)
                   (try clear hk)
                   (try clear hi)
                   refine hK.out _ _ ⟨bc_ BK264.out 0, bc_ BK264.out 1, bc_ BK264.out 2, bc_ BK265.out 0, bc_ BK265.out 1, bc_ BK265.out 2⟩ (fun hHeld => ?_)
                   clear hK K
                   refine norm_ (a' := ?_) ?_ ?_
                   rotate_left
                   ·show Act.put _ (some 17) _ = _
                    simp only [Act.put, x1_, x2_, x3_, i64_w, i32_w]
                    rfl
                   exact norm_ (by simp only [putAll, Act.put, x1_, x2_, x3_] <;> rfl) (hJ3_11 (gb279) _ ⟨hHeld, (bz_ BK264.out), (bz_ BK265.out), (bz_ BK279.out), GW279.out, GE279.out, NB264_279.out, NB279_264.out, NB265_279.out, NB279_265.out, (by repeat (first | (with_reducible first | exact HB.out | apply b1_ | apply b2_ | apply b3_ | apply c_ GE264 | apply c_ GE265 | apply c_ GE279) | exact HB.out))⟩)
                  ·skip
                   refine box_step ?hg (N := 9) ?hd (cs := #[.bool false, .int .i64 0, .int .i64 0]) (t := 24) ?hr ?_; (case hd => rfl); (case hg => rfl); (case hr => first | (go_simp; done) | (go_simp; rfl))
                   intro gb278 hg w20 hbox hb
                   have n0_ := A_ (blk_below (bz_ BK264.out) hb)
                   have n1_ := A_ (blk_below (bz_ BK265.out) hb)
                   have n2_ := A_ (blk_below (bz_ BK279.out) hb)
                   have n3_ := A_ (below_step (by repeat (first | (with_reducible first | exact HB.out | apply b1_ | apply b2_ | apply b3_ | apply c_ GE264 | apply c_ GE265 | apply c_ GE279) | exact HB.out)) hb)
                   have n4_ := A_ (hbox)
                   have n5_ := A_ (ge_ hg)
                   have GE278 := n5_
                   have NB264_278 := A_ (nl_ hg (bz_ BK264.out))
                   have NB278_264 := A_ (ng_ hg (bz_ BK264.out))
                   have NB265_278 := A_ (nl_ hg (bz_ BK265.out))
                   have NB278_265 := A_ (ng_ hg (bz_ BK265.out))
                   have NB279_278 := A_ (nl_ hg (bz_ BK279.out))
                   have NB278_279 := A_ (ng_ hg (bz_ BK279.out))
                   clear BK264 BK265
                   clear BK279 HB
                   have BK264 := n0_
                   have BK265 := n1_
                   have BK279 := n2_
                   have HB := n3_
                   have BK278 := n4_
                   have GW278 := n5_
                   clear n0_ n1_ n2_ n3_ n4_ n5_
                   clear hb hbox hg
                   refine hK.out _ _ ⟨bc_ BK264.out 0, bc_ BK264.out 1, bc_ BK264.out 2, bc_ BK265.out 0, bc_ BK265.out 1, bc_ BK265.out 2⟩ (fun hHeld => ?_)
                   clear hK K
                   refine norm_ (a' := ?_) ?_ ?_
                   rotate_left
                   ·show Act.put _ (some 9) _ = _
                    simp only [Act.put, x1_, x2_, x3_, i64_w, i32_w]
                    rfl
                   exact norm_ (by simp only [putAll, Act.put, x1_, x2_, x3_] <;> rfl) (hJ10_11 (gb278, gb279) _ ⟨hHeld, (bz_ BK264.out), (bz_ BK265.out), (bz_ BK278.out), (bz_ BK279.out), GW278.out, GE278.out, NB264_278.out, NB278_264.out, NB265_278.out, NB278_265.out, NB279_278.out, NB278_279.out, GW279.out, GE279.out, NB264_279.out, NB279_264.out, NB265_279.out, NB279_265.out, (by repeat (first | (with_reducible first | exact HB.out | apply b1_ | apply b2_ | apply b3_ | apply c_ GE264 | apply c_ GE265 | apply c_ GE279 | apply c_ GE278) | exact HB.out))⟩)
                ·skip
                 rintro gb278 w19 ⟨hS_, h0_, h1_, h2_, h3_, h4_, h5_, h6_, h7_, h8_, h9_⟩
                 have n0_ : Aside0 (w19.heap[gb264]? = some (.cells #[.bool a2_0, .int .i64 a2_1, .int .i64 a2_2] 23 (0, 0))) := ⟨h0_⟩
                 have n1_ : Aside0 (w19.heap[gb265]? = some (.cells #[.bool a3_0, .int .i64 a3_1, .int .i64 a3_2] 23 (0, 0))) := ⟨h1_⟩
                 have n2_ : Aside0 (w19.heap[gb278]? = some (.cells #[.bool false, .int .i64 0, .int .i64 0] 24 (0, 0))) := ⟨h2_⟩
                 have GW278 : Aside0 (w.heap.size ≤ gb278) := ⟨h3_⟩
                 have GE278 : Aside0 (w.heap.size ≤ gb278) := ⟨h4_⟩
                 have NB264_278 := A_ h5_
                 have NB278_264 := A_ h6_
                 have NB265_278 := A_ h7_
                 have NB278_265 := A_ h8_
                 have n9_ : Aside0 (Below w.heap.size w w19) := ⟨h9_⟩
                 clear BK264 BK265 HB
                 clear h0_ h1_ h2_ h3_ h4_ h5_ h6_ h7_ h8_ h9_
                 have BK264 := n0_
                 have BK265 := n1_
                 have BK278 := n2_
                 have HB := n9_
                 clear n0_ n1_ n2_ n9_
                 have hHeld : w19.cell? ⟨gb264, 0, none⟩ = some (.bool a2_0) ∧ w19.cell? ⟨gb264, 1, none⟩ = some (.int .i64 a2_1) ∧ w19.cell? ⟨gb264, 2, none⟩ = some (.int .i64 a2_2) ∧ w19.cell? ⟨gb265, 0, none⟩ = some (.bool a3_0) ∧ w19.cell? ⟨gb265, 1, none⟩ = some (.int .i64 a3_1) ∧ w19.cell? ⟨gb265, 2, none⟩ = some (.int .i64 a3_2) := hS_
                 refine norm_ (a' := ?_) ?_ ?_
                 rotate_left
                 ·simp only [putAll, Act.put, List.setIfInBounds_toArray, List.set_cons_zero, List.set_cons_succ]
                  rfl
                 refine two_ (i := 3) (j := 11) (Ni := some 17) (Nj := some 10) #[true, true, true, true, true, false, false, false, false, false, true, false, false, false] #[true, true, true, false, true, false, false, false, false, false, true, true, false, false] rfl rfl rfl rfl (two_of HT_.out (by kernel_rfl)) (by decide) (by decide) (fun K hK => ?_) (fun K hK => ?_)
                 ·skip
                  refine goes_ Try.func10 (by kernel_rfl) rfl #[.agg #[.bool a2_0, .int .i64 a2_1, .int .i64 a2_2]] (by rfl) rfl rfl (by (try simp only [List.map_toArray, List.map_cons, List.map_nil]); first | done | rfl) ?_
                  with_reducible refine (laws_toSpan.calls a2_0 a2_1 a2_2 t266 t267 t268 _ A5.out).mono ?_
                  rintro e w20 ⟨rfl, hb⟩
                  refine ⟨_, rfl, ?_⟩
                  have n0_ := A_ (blk_below (bz_ BK264.out) hb)
                  have n1_ := A_ (blk_below (bz_ BK265.out) hb)
                  have n2_ := A_ (blk_below (bz_ BK278.out) hb)
                  have n3_ := A_ (below_step (by repeat (first | (with_reducible first | exact HB.out | apply b1_ | apply b2_ | apply b3_ | apply c_ GE264 | apply c_ GE265 | apply c_ GE278) | exact HB.out)) hb)
                  clear BK264 BK265
                  clear BK278 HB
                  have BK264 := n0_
                  have BK265 := n1_
                  have BK278 := n2_
                  have HB := n3_
                  clear n0_ n1_ n2_ n3_
                  (try clear hb)
                  (try clear hb2)
                  (try clear hk)
                  (try clear hi)
                  refine hK.out _ _ ⟨bc_ BK264.out 0, bc_ BK264.out 1, bc_ BK264.out 2, bc_ BK265.out 0, bc_ BK265.out 1, bc_ BK265.out 2⟩ (fun hHeld => ?_)
                  clear hK K
                  refine norm_ (a' := ?_) ?_ ?_
                  rotate_left
                  ·show Act.put _ (some 17) _ = _
                   simp only [Act.put, x1_, x2_, x3_, i64_w, i32_w]
                   rfl
                  exact norm_ (by simp only [putAll, Act.put, x1_, x2_, x3_] <;> rfl) (hJ3_10 (gb278) _ ⟨hHeld, (bz_ BK264.out), (bz_ BK265.out), (bz_ BK278.out), GW278.out, GE278.out, NB264_278.out, NB278_264.out, NB265_278.out, NB278_265.out, (by repeat (first | (with_reducible first | exact HB.out | apply b1_ | apply b2_ | apply b3_ | apply c_ GE264 | apply c_ GE265 | apply c_ GE278) | exact HB.out))⟩)
                 ·skip
                  refine box_step ?hg (N := 10) ?hd (cs := #[.bool false, .int .i64 0, .int .i64 0]) (t := 24) ?hr ?_; (case hd => rfl); (case hg => rfl); (case hr => first | (go_simp; done) | (go_simp; rfl))
                  intro gb279 hg w20 hbox hb
                  have n0_ := A_ (blk_below (bz_ BK264.out) hb)
                  have n1_ := A_ (blk_below (bz_ BK265.out) hb)
                  have n2_ := A_ (blk_below (bz_ BK278.out) hb)
                  have n3_ := A_ (below_step (by repeat (first | (with_reducible first | exact HB.out | apply b1_ | apply b2_ | apply b3_ | apply c_ GE264 | apply c_ GE265 | apply c_ GE278) | exact HB.out)) hb)
                  have n4_ := A_ (hbox)
                  have n5_ := A_ (ge_ hg)
                  have GE279 := n5_
                  have NB264_279 := A_ (nl_ hg (bz_ BK264.out))
                  have NB279_264 := A_ (ng_ hg (bz_ BK264.out))
                  have NB265_279 := A_ (nl_ hg (bz_ BK265.out))
                  have NB279_265 := A_ (ng_ hg (bz_ BK265.out))
                  have NB278_279 := A_ (nl_ hg (bz_ BK278.out))
                  have NB279_278 := A_ (ng_ hg (bz_ BK278.out))
                  clear BK264 BK265
                  clear BK278 HB
                  have BK264 := n0_
                  have BK265 := n1_
                  have BK278 := n2_
                  have HB := n3_
                  have BK279 := n4_
                  have GW279 := n5_
                  clear n0_ n1_ n2_ n3_ n4_ n5_
                  clear hb hbox hg
                  refine hK.out _ _ ⟨bc_ BK264.out 0, bc_ BK264.out 1, bc_ BK264.out 2, bc_ BK265.out 0, bc_ BK265.out 1, bc_ BK265.out 2⟩ (fun hHeld => ?_)
                  clear hK K
                  refine norm_ (a' := ?_) ?_ ?_
                  rotate_left
                  ·show Act.put _ (some 10) _ = _
                   simp only [Act.put, x1_, x2_, x3_, i64_w, i32_w]
                   rfl
                  exact norm_ (by simp only [putAll, Act.put, x1_, x2_, x3_] <;> rfl) (hJ10_11 (gb278, gb279) _ ⟨hHeld, (bz_ BK264.out), (bz_ BK265.out), (bz_ BK278.out), (bz_ BK279.out), GW278.out, GE278.out, NB264_278.out, NB278_264.out, NB265_278.out, NB278_265.out, NB279_278.out, NB278_279.out, GW279.out, GE279.out, NB264_279.out, NB279_264.out, NB265_279.out, NB279_265.out, (by repeat (first | (with_reducible first | exact HB.out | apply b1_ | apply b2_ | apply b3_ | apply c_ GE264 | apply c_ GE265 | apply c_ GE278 | apply c_ GE279) | exact HB.out))⟩)
               ·skip
                rintro _ w19 ⟨hS_, h0_, h1_, h2_⟩
                have n0_ : Aside0 (w19.heap[gb264]? = some (.cells #[.bool a2_0, .int .i64 a2_1, .int .i64 a2_2] 23 (0, 0))) := ⟨h0_⟩
                have n1_ : Aside0 (w19.heap[gb265]? = some (.cells #[.bool a3_0, .int .i64 a3_1, .int .i64 a3_2] 23 (0, 0))) := ⟨h1_⟩
                have n2_ : Aside0 (Below w.heap.size w w19) := ⟨h2_⟩
                clear BK264 BK265 HB
                clear h0_ h1_ h2_
                have BK264 := n0_
                have BK265 := n1_
                have HB := n2_
                clear n0_ n1_ n2_
                have hHeld : w19.cell? ⟨gb264, 0, none⟩ = some (.bool a2_0) ∧ w19.cell? ⟨gb264, 1, none⟩ = some (.int .i64 a2_1) ∧ w19.cell? ⟨gb264, 2, none⟩ = some (.int .i64 a2_2) ∧ w19.cell? ⟨gb265, 0, none⟩ = some (.bool a3_0) ∧ w19.cell? ⟨gb265, 1, none⟩ = some (.int .i64 a3_1) ∧ w19.cell? ⟨gb265, 2, none⟩ = some (.int .i64 a3_2) := hS_
                refine norm_ (a' := ?_) ?_ ?_
                rotate_left
                ·simp only [putAll, Act.put, List.setIfInBounds_toArray, List.set_cons_zero, List.set_cons_succ]
                 rfl
                refine three_ (i := 5) (j := 10) (k := 11) (Ni := some 19) (Nj := some 9) (Nk := some 10) #[true, true, true, true, true, true, false, false, false, false, false, false, false, false] #[true, true, true, true, true, false, false, false, false, false, true, false, false, false] #[true, true, true, true, true, false, false, false, false, false, false, true, false, false] rfl rfl rfl rfl rfl rfl (three_of HT_.out (by kernel_rfl)) (by decide) (by decide) (by decide) (fun K hK => ?_) (fun K hK => ?_) (fun K hK => ?_)
                ·skip
                 refine goes_ Try.func10 (by kernel_rfl) rfl #[.agg #[.bool a3_0, .int .i64 a3_1, .int .i64 a3_2]] (by rfl) rfl rfl (by (try simp only [List.map_toArray, List.map_cons, List.map_nil]); first | done | rfl) ?_
                 with_reducible refine (laws_toSpan.calls a3_0 a3_1 a3_2 t269 t270 t271 _ A6.out).mono ?_
                 rintro e w20 ⟨rfl, hb⟩
                 refine ⟨_, rfl, ?_⟩
                 have n0_ := A_ (blk_below (bz_ BK264.out) hb)
                 have n1_ := A_ (blk_below (bz_ BK265.out) hb)
                 have n2_ := A_ (below_step (by repeat (first | (with_reducible first | exact HB.out | apply b1_ | apply b2_ | apply b3_ | apply c_ GE264 | apply c_ GE265) | exact HB.out)) hb)
                 clear BK264 BK265 HB
                 have BK264 := n0_
                 have BK265 := n1_
                 have HB := n2_
                 clear n0_ n1_ n2_
                 (try clear hb)
                 (try clear hb2)
                 (try clear hk)
                 (try clear hi)
                 refine hK.out _ _ ⟨bc_ BK264.out 0, bc_ BK264.out 1, bc_ BK264.out 2, bc_ BK265.out 0, bc_ BK265.out 1, bc_ BK265.out 2⟩ (fun hHeld => ?_)
                 clear hK K
                 refine norm_ (a' := ?_) ?_ ?_
                 rotate_left
                 ·show Act.put _ (some 19) _ = _
                  simp only [Act.put, x1_, x2_, x3_, i64_w, i32_w]
                  rfl
                 exact norm_ (by simp only [putAll, Act.put, x1_, x2_, x3_] <;> rfl) (hJ3_5 () _ ⟨hHeld, (bz_ BK264.out), (bz_ BK265.out), (by repeat (first | (with_reducible first | exact HB.out | apply b1_ | apply b2_ | apply b3_ | apply c_ GE264 | apply c_ GE265) | exact HB.out))⟩)
                ·skip
                 refine box_step ?hg (N := 9) ?hd (cs := #[.bool false, .int .i64 0, .int .i64 0]) (t := 24) ?hr ?_; (case hd => rfl); (case hg => rfl); (case hr => first | (go_simp; done) | (go_simp; rfl))
                 intro gb278 hg w20 hbox hb
                 have n0_ := A_ (blk_below (bz_ BK264.out) hb)
                 have n1_ := A_ (blk_below (bz_ BK265.out) hb)
                 have n2_ := A_ (below_step (by repeat (first | (with_reducible first | exact HB.out | apply b1_ | apply b2_ | apply b3_ | apply c_ GE264 | apply c_ GE265) | exact HB.out)) hb)
                 have n3_ := A_ (hbox)
                 have n4_ := A_ (ge_ hg)
                 have GE278 := n4_
                 have NB264_278 := A_ (nl_ hg (bz_ BK264.out))
                 have NB278_264 := A_ (ng_ hg (bz_ BK264.out))
                 have NB265_278 := A_ (nl_ hg (bz_ BK265.out))
                 have NB278_265 := A_ (ng_ hg (bz_ BK265.out))
                 clear BK264 BK265 HB
                 have BK264 := n0_
                 have BK265 := n1_
                 have HB := n2_
                 have BK278 := n3_
                 have GW278 := n4_
                 clear n0_ n1_ n2_ n3_ n4_
                 clear hb hbox hg
                 refine hK.out _ _ ⟨bc_ BK264.out 0, bc_ BK264.out 1, bc_ BK264.out 2, bc_ BK265.out 0, bc_ BK265.out 1, bc_ BK265.out 2⟩ (fun hHeld => ?_)
                 clear hK K
                 refine norm_ (a' := ?_) ?_ ?_
                 rotate_left
                 ·show Act.put _ (some 9) _ = _
                  simp only [Act.put, x1_, x2_, x3_, i64_w, i32_w]
                  rfl
                 exact norm_ (by simp only [putAll, Act.put, x1_, x2_, x3_] <;> rfl) (hJ3_10 (gb278) _ ⟨hHeld, (bz_ BK264.out), (bz_ BK265.out), (bz_ BK278.out), GW278.out, GE278.out, NB264_278.out, NB278_264.out, NB265_278.out, NB278_265.out, (by repeat (first | (with_reducible first | exact HB.out | apply b1_ | apply b2_ | apply b3_ | apply c_ GE264 | apply c_ GE265 | apply c_ GE278) | exact HB.out))⟩)
                ·skip
                 refine box_step ?hg (N := 10) ?hd (cs := #[.bool false, .int .i64 0, .int .i64 0]) (t := 24) ?hr ?_; (case hd => rfl); (case hg => rfl); (case hr => first | (go_simp; done) | (go_simp; rfl))
                 intro gb279 hg w20 hbox hb
                 have n0_ := A_ (blk_below (bz_ BK264.out) hb)
                 have n1_ := A_ (blk_below (bz_ BK265.out) hb)
                 have n2_ := A_ (below_step (by repeat (first | (with_reducible first | exact HB.out | apply b1_ | apply b2_ | apply b3_ | apply c_ GE264 | apply c_ GE265) | exact HB.out)) hb)
                 have n3_ := A_ (hbox)
                 have n4_ := A_ (ge_ hg)
                 have GE279 := n4_
                 have NB264_279 := A_ (nl_ hg (bz_ BK264.out))
                 have NB279_264 := A_ (ng_ hg (bz_ BK264.out))
                 have NB265_279 := A_ (nl_ hg (bz_ BK265.out))
                 have NB279_265 := A_ (ng_ hg (bz_ BK265.out))
                 clear BK264 BK265 HB
                 have BK264 := n0_
                 have BK265 := n1_
                 have HB := n2_
                 have BK279 := n3_
                 have GW279 := n4_
                 clear n0_ n1_ n2_ n3_ n4_
                 clear hb hbox hg
                 refine hK.out _ _ ⟨bc_ BK264.out 0, bc_ BK264.out 1, bc_ BK264.out 2, bc_ BK265.out 0, bc_ BK265.out 1, bc_ BK265.out 2⟩ (fun hHeld => ?_)
                 clear hK K
                 refine norm_ (a' := ?_) ?_ ?_
                 rotate_left
                 ·show Act.put _ (some 10) _ = _
                  simp only [Act.put, x1_, x2_, x3_, i64_w, i32_w]
                  rfl
                 exact norm_ (by simp only [putAll, Act.put, x1_, x2_, x3_] <;> rfl) (hJ3_11 (gb279) _ ⟨hHeld, (bz_ BK264.out), (bz_ BK265.out), (bz_ BK279.out), GW279.out, GE279.out, NB264_279.out, NB279_264.out, NB265_279.out, NB279_265.out, (by repeat (first | (with_reducible first | exact HB.out | apply b1_ | apply b2_ | apply b3_ | apply c_ GE264 | apply c_ GE265 | apply c_ GE279) | exact HB.out))⟩)
              ·skip
               rintro ⟨gb278, gb279⟩ w20 ⟨hS_, h0_, h1_, h2_, h3_, h4_, h5_, h6_, h7_, h8_, h9_, h10_, h11_, h12_, h13_, h14_, h15_, h16_, h17_, h18_⟩
               have n0_ : Aside0 (w20.heap[gb264]? = some (.cells #[.bool a2_0, .int .i64 a2_1, .int .i64 a2_2] 23 (0, 0))) := ⟨h0_⟩
               have n1_ : Aside0 (w20.heap[gb265]? = some (.cells #[.bool a3_0, .int .i64 a3_1, .int .i64 a3_2] 23 (0, 0))) := ⟨h1_⟩
               have n2_ : Aside0 (w20.heap[gb278]? = some (.cells #[.bool false, .int .i64 0, .int .i64 0] 24 (0, 0))) := ⟨h2_⟩
               have n3_ : Aside0 (w20.heap[gb279]? = some (.cells #[.bool false, .int .i64 0, .int .i64 0] 24 (0, 0))) := ⟨h3_⟩
               have GW278 : Aside0 (w.heap.size ≤ gb278) := ⟨h4_⟩
               have GE278 : Aside0 (w.heap.size ≤ gb278) := ⟨h5_⟩
               have NB264_278 := A_ h6_
               have NB278_264 := A_ h7_
               have NB265_278 := A_ h8_
               have NB278_265 := A_ h9_
               have NB279_278 := A_ h10_
               have NB278_279 := A_ h11_
               have GW279 : Aside0 (w.heap.size ≤ gb279) := ⟨h12_⟩
               have GE279 : Aside0 (w.heap.size ≤ gb279) := ⟨h13_⟩
               have NB264_279 := A_ h14_
               have NB279_264 := A_ h15_
               have NB265_279 := A_ h16_
               have NB279_265 := A_ h17_
               have n18_ : Aside0 (Below w.heap.size w w20) := ⟨h18_⟩
               clear BK264 BK265 HB
               clear h0_ h1_ h2_ h3_ h4_ h5_ h6_ h7_ h8_ h9_ h10_ h11_ h12_ h13_ h14_ h15_ h16_ h17_ h18_
               have BK264 := n0_
               have BK265 := n1_
               have BK278 := n2_
               have BK279 := n3_
               have HB := n18_
               clear n0_ n1_ n2_ n3_ n18_
               have hHeld : w20.cell? ⟨gb264, 0, none⟩ = some (.bool a2_0) ∧ w20.cell? ⟨gb264, 1, none⟩ = some (.int .i64 a2_1) ∧ w20.cell? ⟨gb264, 2, none⟩ = some (.int .i64 a2_2) ∧ w20.cell? ⟨gb265, 0, none⟩ = some (.bool a3_0) ∧ w20.cell? ⟨gb265, 1, none⟩ = some (.int .i64 a3_1) ∧ w20.cell? ⟨gb265, 2, none⟩ = some (.int .i64 a3_2) := hS_
               refine norm_ (a' := ?_) ?_ ?_
               rotate_left
               ·simp only [putAll, Act.put, List.setIfInBounds_toArray, List.set_cons_zero, List.set_cons_succ]
                rfl
               refine one_ (i := 3) (N := some 17) #[true, true, true, true, true, false, false, false, false, false, true, true, false, false] rfl rfl (one_of HT_.out (by kernel_rfl)) (by decide) (fun K hK => ?_)
               refine goes_ Try.func10 (by kernel_rfl) rfl #[.agg #[.bool a2_0, .int .i64 a2_1, .int .i64 a2_2]] (by rfl) rfl rfl (by (try simp only [List.map_toArray, List.map_cons, List.map_nil]); first | done | rfl) ?_
               with_reducible refine (laws_toSpan.calls a2_0 a2_1 a2_2 t266 t267 t268 _ A5.out).mono ?_
               rintro e w21 ⟨rfl, hb⟩
               refine ⟨_, rfl, ?_⟩
               have n0_ := A_ (blk_below (bz_ BK264.out) hb)
               have n1_ := A_ (blk_below (bz_ BK265.out) hb)
               have n2_ := A_ (blk_below (bz_ BK278.out) hb)
               have n3_ := A_ (blk_below (bz_ BK279.out) hb)
               have n4_ := A_ (below_step (by repeat (first | (with_reducible first | exact HB.out | apply b1_ | apply b2_ | apply b3_ | apply c_ GE264 | apply c_ GE265 | apply c_ GE278 | apply c_ GE279) | exact HB.out)) hb)
               clear BK264 BK265
               clear BK278 BK279 HB
               have BK264 := n0_
               have BK265 := n1_
               have BK278 := n2_
               have BK279 := n3_
               have HB := n4_
               clear n0_ n1_ n2_ n3_ n4_
               (try clear hb)
               (try clear hb2)
               (try clear hk)
               (try clear hi)
               refine hK.out _ _ ⟨bc_ BK264.out 0, bc_ BK264.out 1, bc_ BK264.out 2, bc_ BK265.out 0, bc_ BK265.out 1, bc_ BK265.out 2⟩ (fun hHeld => ?_)
               clear hK K
               refine norm_ (a' := ?_) ?_ ?_
               rotate_left
               ·show Act.put _ (some 17) _ = _
                simp only [Act.put, x1_, x2_, x3_, i64_w, i32_w]
                rfl
               exact norm_ (by simp only [putAll, Act.put, x1_, x2_, x3_] <;> rfl) (hJ3_10_11 (gb278, gb279) _ ⟨hHeld, (bz_ BK264.out), (bz_ BK265.out), (bz_ BK278.out), (bz_ BK279.out), GW278.out, GE278.out, NB264_278.out, NB278_264.out, NB265_278.out, NB278_265.out, NB279_278.out, NB278_279.out, GW279.out, GE279.out, NB264_279.out, NB279_264.out, NB265_279.out, NB279_265.out, (by repeat (first | (with_reducible first | exact HB.out | apply b1_ | apply b2_ | apply b3_ | apply c_ GE264 | apply c_ GE265 | apply c_ GE278 | apply c_ GE279) | exact HB.out))⟩)
             ·skip
              rintro gb279 w20 ⟨hS_, h0_, h1_, h2_, h3_, h4_, h5_, h6_, h7_, h8_, h9_⟩
              have n0_ : Aside0 (w20.heap[gb264]? = some (.cells #[.bool a2_0, .int .i64 a2_1, .int .i64 a2_2] 23 (0, 0))) := ⟨h0_⟩
              have n1_ : Aside0 (w20.heap[gb265]? = some (.cells #[.bool a3_0, .int .i64 a3_1, .int .i64 a3_2] 23 (0, 0))) := ⟨h1_⟩
              have n2_ : Aside0 (w20.heap[gb279]? = some (.cells #[.bool false, .int .i64 0, .int .i64 0] 24 (0, 0))) := ⟨h2_⟩
              have GW279 : Aside0 (w.heap.size ≤ gb279) := ⟨h3_⟩
              have GE279 : Aside0 (w.heap.size ≤ gb279) := ⟨h4_⟩
              have NB264_279 := A_ h5_
              have NB279_264 := A_ h6_
              have NB265_279 := A_ h7_
              have NB279_265 := A_ h8_
              have n9_ : Aside0 (Below w.heap.size w w20) := ⟨h9_⟩
              clear BK264 BK265 HB
              clear h0_ h1_ h2_ h3_ h4_ h5_ h6_ h7_ h8_ h9_
              have BK264 := n0_
              have BK265 := n1_
              have BK279 := n2_
              have HB := n9_
              clear n0_ n1_ n2_ n9_
              have hHeld : w20.cell? ⟨gb264, 0, none⟩ = some (.bool a2_0) ∧ w20.cell? ⟨gb264, 1, none⟩ = some (.int .i64 a2_1) ∧ w20.cell? ⟨gb264, 2, none⟩ = some (.int .i64 a2_2) ∧ w20.cell? ⟨gb265, 0, none⟩ = some (.bool a3_0) ∧ w20.cell? ⟨gb265, 1, none⟩ = some (.int .i64 a3_1) ∧ w20.cell? ⟨gb265, 2, none⟩ = some (.int .i64 a3_2) := hS_
              refine norm_ (a' := ?_) ?_ ?_
              rotate_left
              ·simp only [putAll, Act.put, List.setIfInBounds_toArray, List.set_cons_zero, List.set_cons_succ]
               rfl
              refine two_ (i := 5) (j := 10) (Ni := some 19) (Nj := some 9) #[true, true, true, true, true, true, false, false, false, false, false, true, false, false] #[true, true, true, true, true, false, false, false, false, false, true, true, false, false] rfl rfl rfl rfl (two_of HT_.out (by kernel_rfl)) (by decide) (by decide) (fun K hK => ?_) (fun K hK => ?_)
              ·skip
               refine goes_ Try.func10 (by kernel_rfl) rfl #[.agg #[.bool a3_0, .int .i64 a3_1, .int .i64 a3_2]] (by rfl) rfl rfl (by (try simp only [List.map_toArray, List.map_cons, List.map_nil]); first | done | rfl) ?_
               with_reducible refine (laws_toSpan.calls a3_0 a3_1 a3_2 t269 t270 t271 _ A6.out).mono ?_
               rintro e w21 ⟨rfl, hb⟩
               refine ⟨_, rfl, ?_⟩
               have n0_ := A_ (blk_below (bz_ BK264.out) hb)
               have n1_ := A_ (blk_below (bz_ BK265.out) hb)
               have n2_ := A_ (blk_below (bz_ BK279.out) hb)
               have n3_ := A_ (below_step (by repeat (first | (with_reducible first | exact HB.out | apply b1_ | apply b2_ | apply b3_ | apply c_ GE264 | apply c_ GE265 | apply c_ GE279) | exact HB.out)) hb)
               clear BK264 BK265
               clear BK279 HB
               have BK264 := n0_
               have BK265 := n1_
               have BK279 := n2_
               have HB := n3_
               clear n0_ n1_ n2_ n3_
               (try clear hb)
               (try clear hb2)
               (try clear hk)
               (try clear hi)
               refine hK.out _ _ ⟨bc_ BK264.out 0, bc_ BK264.out 1, bc_ BK264.out 2, bc_ BK265.out 0, bc_ BK265.out 1, bc_ BK265.out 2⟩ (fun hHeld => ?_)
               clear hK K
               refine norm_ (a' := ?_) ?_ ?_
               rotate_left
               ·show Act.put _ (some 19) _ = _
                simp only [Act.put, x1_, x2_, x3_, i64_w, i32_w]
                rfl
               exact norm_ (by simp only [putAll, Act.put, x1_, x2_, x3_] <;> rfl) (hJ3_5_11 (gb279) _ ⟨hHeld, (bz_ BK264.out), (bz_ BK265.out), (bz_ BK279.out), GW279.out, GE279.out, NB264_279.out, NB279_264.out, NB265_279.out, NB279_265.out, (by repeat (first | (with_reducible first | exact HB.out | apply b1_ | apply b2_ | apply b3_ | apply c_ GE264 | apply c_ GE265 | apply c_ GE279) | exact HB.out))⟩)
              ·skip
               refine box_step ?hg (N := 9) ?hd (cs := #[.bool false, .int .i64 0, .int .i64 0]) (t := 24) ?hr ?_; (case hd => rfl); (case hg => rfl); (case hr => first | (go_simp; done) | (go_simp; rfl))
               intro gb278 hg w21 hbox hb
               have n0_ := A_ (blk_below (bz_ BK264.out) hb)
               have n1_ := A_ (blk_below (bz_ BK265.out) hb)
               have n2_ := A_ (blk_below (bz_ BK279.out) hb)
               have n3_ := A_ (below_step (by repeat (first | (with_reducible first | exact HB.out | apply b1_ | apply b2_ | apply b3_ | apply c_ GE264 | apply c_ GE265 | apply c_ GE279) | exact HB.out)) hb)
               have n4_ := A_ (hbox)
               have n5_ := A_ (ge_ hg)
               have GE278 := n5_
               have NB264_278 := A_ (nl_ hg (bz_ BK264.out))
               have NB278_264 := A_ (ng_ hg (bz_ BK264.out))
               have NB265_278 := A_ (nl_ hg (bz_ BK265.out))
               have NB278_265 := A_ (ng_ hg (bz_ BK265.out))
               have NB279_278 := A_ (nl_ hg (bz_ BK279.out))
               have NB278_279 := A_ (ng_ hg (bz_ BK279.out))
               clear BK264 BK265
               clear BK279 HB
               have BK264 := n0_
               have BK265 := n1_
               have BK279 := n2_
               have HB := n3_
               have BK278 := n4_
               have GW278 := n5_
               clear n0_ n1_ n2_ n3_ n4_ n5_
               clear hb hbox hg
               refine hK.out _ _ ⟨bc_ BK264.out 0, bc_ BK264.out 1, bc_ BK264.out 2, bc_ BK265.out 0, bc_ BK265.out 1, bc_ BK265.out 2⟩ (fun hHeld => ?_)
               clear hK K
               refine norm_ (a' := ?_) ?_ ?_
               rotate_left
               ·show Act.put _ (some 9) _ = _
                simp only [Act.put, x1_, x2_, x3_, i64_w, i32_w]
                rfl
               exact norm_ (by simp only [putAll, Act.put, x1_, x2_, x3_] <;> rfl) (hJ3_10_11 (gb278, gb279) _ ⟨hHeld, (bz_ BK264.out), (bz_ BK265.out), (bz_ BK278.out), (bz_ BK279.out), GW278.out, GE278.out, NB264_278.out, NB278_264.out, NB265_278.out, NB278_265.out, NB279_278.out, NB278_279.out, GW279.out, GE279.out, NB264_279.out, NB279_264.out, NB265_279.out, NB279_265.out, (by repeat (first | (with_reducible first | exact HB.out | apply b1_ | apply b2_ | apply b3_ | apply c_ GE264 | apply c_ GE265 | apply c_ GE279 | apply c_ GE278) | exact HB.out))⟩)
            ·skip
             rintro gb278 w20 ⟨hS_, h0_, h1_, h2_, h3_, h4_, h5_, h6_, h7_, h8_, h9_⟩
             have n0_ : Aside0 (w20.heap[gb264]? = some (.cells #[.bool a2_0, .int .i64 a2_1, .int .i64 a2_2] 23 (0, 0))) := ⟨h0_⟩
             have n1_ : Aside0 (w20.heap[gb265]? = some (.cells #[.bool a3_0, .int .i64 a3_1, .int .i64 a3_2] 23 (0, 0))) := ⟨h1_⟩
             have n2_ : Aside0 (w20.heap[gb278]? = some (.cells #[.bool false, .int .i64 0, .int .i64 0] 24 (0, 0))) := ⟨h2_⟩
             have GW278 : Aside0 (w.heap.size ≤ gb278) := ⟨h3_⟩
             have GE278 : Aside0 (w.heap.size ≤ gb278) := ⟨h4_⟩
             have NB264_278 := A_ h5_
             have NB278_264 := A_ h6_
             have NB265_278 := A_ h7_
             have NB278_265 := A_ h8_
             have n9_ : Aside0 (Below w.heap.size w w20) := ⟨h9_⟩
             clear BK264 BK265 HB
             clear h0_ h1_ h2_ h3_ h4_ h5_ h6_ h7_ h8_ h9_
             have BK264 := n0_
             have BK265 := n1_
             have BK278 := n2_
             have HB := n9_
             clear n0_ n1_ n2_ n9_
             have hHeld : w20.cell? ⟨gb264, 0, none⟩ = some (.bool a2_0) ∧ w20.cell? ⟨gb264, 1, none⟩ = some (.int .i64 a2_1) ∧ w20.cell? ⟨gb264, 2, none⟩ = some (.int .i64 a2_2) ∧ w20.cell? ⟨gb265, 0, none⟩ = some (.bool a3_0) ∧ w20.cell? ⟨gb265, 1, none⟩ = some (.int .i64 a3_1) ∧ w20.cell? ⟨gb265, 2, none⟩ = some (.int .i64 a3_2) := hS_
             refine norm_ (a' := ?_) ?_ ?_
             rotate_left
             ·simp only [putAll, Act.put, List.setIfInBounds_toArray, List.set_cons_zero, List.set_cons_succ]
              rfl
             refine two_ (i := 5) (j := 11) (Ni := some 19) (Nj := some 10) #[true, true, true, true, true, true, false, false, false, false, true, false, false, false] #[true, true, true, true, true, false, false, false, false, false, true, true, false, false] rfl rfl rfl rfl (two_of HT_.out (by kernel_rfl)) (by decide) (by decide) (fun K hK => ?_) (fun K hK => ?_)
             ·skip
              refine goes_ Try.func10 (by kernel_rfl) rfl #[.agg #[.bool a3_0, .int .i64 a3_1, .int .i64 a3_2]] (by rfl) rfl rfl (by (try simp only [List.map_toArray, List.map_cons, List.map_nil]); first | done | rfl) ?_
              with_reducible refine (laws_toSpan.calls a3_0 a3_1 a3_2 t269 t270 t271 _ A6.out).mono ?_
              rintro e w21 ⟨rfl, hb⟩
              refine ⟨_, rfl, ?_⟩
              have n0_ := A_ (blk_below (bz_ BK264.out) hb)
              have n1_ := A_ (blk_below (bz_ BK265.out) hb)
              have n2_ := A_ (blk_below (bz_ BK278.out) hb)
              have n3_ := A_ (below_step (by repeat (first | (with_reducible first | exact HB.out | apply b1_ | apply b2_ | apply b3_ | apply c_ GE264 | apply c_ GE265 | apply c_ GE278) | exact HB.out)) hb)
              clear BK264 BK265
              clear BK278 HB
              have BK264 := n0_
              have BK265 := n1_
              have BK278 := n2_
              have HB := n3_
              clear n0_ n1_ n2_ n3_
              (try clear hb)
              (try clear hb2)
              (try clear hk)
              (try clear hi)
              refine hK.out _ _ ⟨bc_ BK264.out 0, bc_ BK264.out 1, bc_ BK264.out 2, bc_ BK265.out 0, bc_ BK265.out 1, bc_ BK265.out 2⟩ (fun hHeld => ?_)
              clear hK K
              refine norm_ (a' := ?_) ?_ ?_
              rotate_left
              ·show Act.put _ (some 19) _ = _
               simp only [Act.put, x1_, x2_, x3_, i64_w, i32_w]
               rfl
              exact norm_ (by simp only [putAll, Act.put, x1_, x2_, x3_] <;> rfl) (hJ3_5_10 (gb278) _ ⟨hHeld, (bz_ BK264.out), (bz_ BK265.out), (bz_ BK278.out), GW278.out, GE278.out, NB264_278.out, NB278_264.out, NB265_278.out, NB278_265.out, (by repeat (first | (with_reducible first | exact HB.out | apply b1_ | apply b2_ | apply b3_ | apply c_ GE264 | apply c_ GE265 | apply c_ GE278) | exact HB.out))⟩)
             ·skip
              refine box_step ?hg (N := 10) ?hd (cs := #[.bool false, .int .i64 0, .int .i64 0]) (t := 24) ?hr ?_; (case hd => rfl); (case hg => rfl); (case hr => first | (go_simp; done) | (go_simp; rfl))
              intro gb279 hg w21 hbox hb
              have n0_ := A_ (blk_below (bz_ BK264.out) hb)
              have n1_ := A_ (blk_below (bz_ BK265.out) hb)
              have n2_ := A_ (blk_below (bz_ BK278.out) hb)
              have n3_ := A_ (below_step (by repeat (first | (with_reducible first | exact HB.out | apply b1_ | apply b2_ | apply b3_ | apply c_ GE264 | apply c_ GE265 | apply c_ GE278) | exact HB.out)) hb)
              have n4_ := A_ (hbox)
              have n5_ := A_ (ge_ hg)
              have GE279 := n5_
              have NB264_279 := A_ (nl_ hg (bz_ BK264.out))
              have NB279_264 := A_ (ng_ hg (bz_ BK264.out))
              have NB265_279 := A_ (nl_ hg (bz_ BK265.out))
              have NB279_265 := A_ (ng_ hg (bz_ BK265.out))
              have NB278_279 := A_ (nl_ hg (bz_ BK278.out))
              have NB279_278 := A_ (ng_ hg (bz_ BK278.out))
              clear BK264 BK265
              clear BK278 HB
              have BK264 := n0_
              have BK265 := n1_
              have BK278 := n2_
              have HB := n3_
              have BK279 := n4_
              have GW279 := n5_
              clear n0_ n1_ n2_ n3_ n4_ n5_
              clear hb hbox hg
              refine hK.out _ _ ⟨bc_ BK264.out 0, bc_ BK264.out 1, bc_ BK264.out 2, bc_ BK265.out 0, bc_ BK265.out 1, bc_ BK265.out 2⟩ (fun hHeld => ?_)
              clear hK K
              refine norm_ (a' := ?_) ?_ ?_
              rotate_left
              ·show Act.put _ (some 10) _ = _
               simp only [Act.put, x1_, x2_, x3_, i64_w, i32_w]
               rfl
              exact norm_ (by simp only [putAll, Act.put, x1_, x2_, x3_] <;> rfl) (hJ3_10_11 (gb278, gb279) _ ⟨hHeld, (bz_ BK264.out), (bz_ BK265.out), (bz_ BK278.out), (bz_ BK279.out), GW278.out, GE278.out, NB264_278.out, NB278_264.out, NB265_278.out, NB278_265.out, NB279_278.out, NB278_279.out, GW279.out, GE279.out, NB264_279.out, NB279_264.out, NB265_279.out, NB279_265.out, (by repeat (first | (with_reducible first | exact HB.out | apply b1_ | apply b2_ | apply b3_ | apply c_ GE264 | apply c_ GE265 | apply c_ GE278 | apply c_ GE279) | exact HB.out))⟩)
           ·skip
            rintro _ w20 ⟨hS_, h0_, h1_, h2_⟩
            have n0_ : Aside0 (w20.heap[gb264]? = some (.cells #[.bool a2_0, .int .i64 a2_1, .int .i64 a2_2] 23 (0, 0))) := ⟨h0_⟩
            have n1_ : Aside0 (w20.heap[gb265]? = some (.cells #[.bool a3_0, .int .i64 a3_1, .int .i64 a3_2] 23 (0, 0))) := ⟨h1_⟩
            have n2_ : Aside0 (Below w.heap.size w w20) := ⟨h2_⟩
            clear BK264 BK265 HB
            clear h0_ h1_ h2_
            have BK264 := n0_
            have BK265 := n1_
            have HB := n2_
            clear n0_ n1_ n2_
            have hHeld : w20.cell? ⟨gb264, 0, none⟩ = some (.bool a2_0) ∧ w20.cell? ⟨gb264, 1, none⟩ = some (.int .i64 a2_1) ∧ w20.cell? ⟨gb264, 2, none⟩ = some (.int .i64 a2_2) ∧ w20.cell? ⟨gb265, 0, none⟩ = some (.bool a3_0) ∧ w20.cell? ⟨gb265, 1, none⟩ = some (.int .i64 a3_1) ∧ w20.cell? ⟨gb265, 2, none⟩ = some (.int .i64 a3_2) := hS_
            refine norm_ (a' := ?_) ?_ ?_
            rotate_left
            ·simp only [putAll, Act.put, List.setIfInBounds_toArray, List.set_cons_zero, List.set_cons_succ]
             rfl
            refine three_ (i := 6) (j := 10) (k := 11) (Ni := some 20) (Nj := some 9) (Nk := some 10) #[true, true, true, true, true, true, true, false, false, false, false, false, false, false] #[true, true, true, true, true, true, false, false, false, false, true, false, false, false] #[true, true, true, true, true, true, false, false, false, false, false, true, false, false] rfl rfl rfl rfl rfl rfl (three_of HT_.out (by kernel_rfl)) (by decide) (by decide) (by decide) (fun K hK => ?_) (fun K hK => ?_) (fun K hK => ?_)
            ·skip
             refine goes_ Try.func9 (by kernel_rfl) rfl #[.int .i64 a0, .int .i64 a1, .agg #[.bool t266, .int .i64 t267, .int .i64 t268], .agg #[.bool t269, .int .i64 t270, .int .i64 t271]] (by rfl) rfl rfl (by (try simp only [List.map_toArray, List.map_cons, List.map_nil]); first | done | rfl) ?_
             with_reducible refine (spec_RelMeet.calls k a0 a1 t266 t267 t268 t269 t270 t271 t272 t273 t274 t275 t276 t277 _ A7.out).mono ?_
             rintro e w21 ⟨rfl, hb⟩
             refine ⟨_, rfl, ?_⟩
             have n0_ := A_ (blk_below (bz_ BK264.out) hb)
             have n1_ := A_ (blk_below (bz_ BK265.out) hb)
             have n2_ := A_ (below_step (by repeat (first | (with_reducible first | exact HB.out | apply b1_ | apply b2_ | apply b3_ | apply c_ GE264 | apply c_ GE265) | exact HB.out)) hb)
             clear BK264 BK265 HB
             have BK264 := n0_
             have BK265 := n1_
             have HB := n2_
             clear n0_ n1_ n2_
             (try clear hb)
             (try clear hb2)
             (try clear hk)
             (try clear hi)
             refine hK.out _ _ ⟨bc_ BK264.out 0, bc_ BK264.out 1, bc_ BK264.out 2, bc_ BK265.out 0, bc_ BK265.out 1, bc_ BK265.out 2⟩ (fun hHeld => ?_)
             clear hK K
             refine norm_ (a' := ?_) ?_ ?_
             rotate_left
             ·show Act.put _ (some 20) _ = _
              simp only [Act.put, x1_, x2_, x3_, i64_w, i32_w]
              rfl
             refine pure_ (i := 7) (N := some 13) (v := ?_) (a' := ?_) #[true, true, true, true, true, true, true, true, false, false, false, false, false, false] rfl rfl (any_of HT_.out (by kernel_rfl)) (fun _ _ _ h => h) (Or.inl ⟨by rfl, ?_⟩) ?_ ?_
             rotate_left
             ·intro w'
              go_simp
              with_reducible rfl
             rotate_left
             ·simp only [Act.put, x1_, x2_, x3_, i64_w, i32_w]
              rfl
             refine pure_ (i := 8) (N := some 21) (v := ?_) (a' := ?_) #[true, true, true, true, true, true, true, true, true, false, false, false, false, false] rfl rfl (any_of HT_.out (by kernel_rfl)) (fun _ _ _ h => h) (Or.inl ⟨by rfl, ?_⟩) ?_ ?_
             rotate_left
             ·intro w'
              go_simp
              with_reducible rfl
             rotate_left
             ·simp only [Act.put, x1_, x2_, x3_, i64_w, i32_w]
              rfl
             refine pure_ (i := 9) (N := some 22) (v := ?_) (a' := ?_) #[true, true, true, true, true, true, true, true, true, true, false, false, false, false] rfl rfl (any_of HT_.out (by kernel_rfl)) (fun _ _ _ h => h) (Or.inl ⟨by rfl, ?_⟩) ?_ ?_
             rotate_left
             ·intro w'
              go_simp
              with_reducible rfl
             rotate_left
             ·simp only [Act.put, x1_, x2_, x3_, i64_w, i32_w]
              rfl
             exact norm_ (by simp only [putAll, Act.put, x1_, x2_, x3_] <;> rfl) (hJ3_5_6 () _ ⟨hHeld, (bz_ BK264.out), (bz_ BK265.out), (by repeat (first | (with_reducible first | exact HB.out | apply b1_ | apply b2_ | apply b3_ | apply c_ GE264 | apply c_ GE265) | exact HB.out))⟩)
            ·skip
             refine box_step ?hg (N := 9) ?hd (cs := #[.bool false, .int .i64 0, .int .i64 0]) (t := 24) ?hr ?_; (case hd => rfl); (case hg => rfl); (case hr => first | (go_simp; done) | (go_simp; rfl))
             intro gb278 hg w21 hbox hb
             have n0_ := A_ (blk_below (bz_ BK264.out) hb)
             have n1_ := A_ (blk_below (bz_ BK265.out) hb)
             have n2_ := A_ (below_step (by repeat (first | (with_reducible first | exact HB.out | apply b1_ | apply b2_ | apply b3_ | apply c_ GE264 | apply c_ GE265) | exact HB.out)) hb)
             have n3_ := A_ (hbox)
             have n4_ := A_ (ge_ hg)
             have GE278 := n4_
             have NB264_278 := A_ (nl_ hg (bz_ BK264.out))
             have NB278_264 := A_ (ng_ hg (bz_ BK264.out))
             have NB265_278 := A_ (nl_ hg (bz_ BK265.out))
             have NB278_265 := A_ (ng_ hg (bz_ BK265.out))
             clear BK264 BK265 HB
             have BK264 := n0_
             have BK265 := n1_
             have HB := n2_
             have BK278 := n3_
             have GW278 := n4_
             clear n0_ n1_ n2_ n3_ n4_
             clear hb hbox hg
             refine hK.out _ _ ⟨bc_ BK264.out 0, bc_ BK264.out 1, bc_ BK264.out 2, bc_ BK265.out 0, bc_ BK265.out 1, bc_ BK265.out 2⟩ (fun hHeld => ?_)
             clear hK K
             refine norm_ (a' := ?_) ?_ ?_
             rotate_left
             ·show Act.put _ (some 9) _ = _
              simp only [Act.put, x1_, x2_, x3_, i64_w, i32_w]
              rfl
             exact norm_ (by simp only [putAll, Act.put, x1_, x2_, x3_] <;> rfl) (hJ3_5_10 (gb278) _ ⟨hHeld, (bz_ BK264.out), (bz_ BK265.out), (bz_ BK278.out), GW278.out, GE278.out, NB264_278.out, NB278_264.out, NB265_278.out, NB278_265.out, (by repeat (first | (with_reducible first | exact HB.out | apply b1_ | apply b2_ | apply b3_ | apply c_ GE264 | apply c_ GE265 | apply c_ GE278) | exact HB.out))⟩)
            ·skip
             refine box_step ?hg (N := 10) ?hd (cs := #[.bool false, .int .i64 0, .int .i64 0]) (t := 24) ?hr ?_; (case hd => rfl); (case hg => rfl); (case hr => first | (go_simp; done) | (go_simp; rfl))
             intro gb279 hg w21 hbox hb
             have n0_ := A_ (blk_below (bz_ BK264.out) hb)
             have n1_ := A_ (blk_below (bz_ BK265.out) hb)
             have n2_ := A_ (below_step (by repeat (first | (with_reducible first | exact HB.out | apply b1_ | apply b2_ | apply b3_ | apply c_ GE264 | apply c_ GE265) | exact HB.out)) hb)
             have n3_ := A_ (hbox)
             have n4_ := A_ (ge_ hg)
             have GE279 := n4_
             have NB264_279 := A_ (nl_ hg (bz_ BK264.out))
             have NB279_264 := A_ (ng_ hg (bz_ BK264.out))
             have NB265_279 := A_ (nl_ hg (bz_ BK265.out))
             have NB279_265 := A_ (ng_ hg (bz_ BK265.out))
             clear BK264 BK265 HB
             have BK264 := n0_
             have BK265 := n1_
             have HB := n2_
             have BK279 := n3_
             have GW279 := n4_
             clear n0_ n1_ n2_ n3_ n4_
             clear hb hbox hg
             refine hK.out _ _ ⟨bc_ BK264.out 0, bc_ BK264.out 1, bc_ BK264.out 2, bc_ BK265.out 0, bc_ BK265.out 1, bc_ BK265.out 2⟩ (fun hHeld => ?_)
             clear hK K
             refine norm_ (a' := ?_) ?_ ?_
             rotate_left
             ·show Act.put _ (some 10) _ = _
              simp only [Act.put, x1_, x2_, x3_, i64_w, i32_w]
              rfl
             exact norm_ (by simp only [putAll, Act.put, x1_, x2_, x3_] <;> rfl) (hJ3_5_11 (gb279) _ ⟨hHeld, (bz_ BK264.out), (bz_ BK265.out), (bz_ BK279.out), GW279.out, GE279.out, NB264_279.out, NB279_264.out, NB265_279.out, NB279_265.out, (by repeat (first | (with_reducible first | exact HB.out | apply b1_ | apply b2_ | apply b3_ | apply c_ GE264 | apply c_ GE265 | apply c_ GE279) | exact HB.out))⟩)
          ·skip
           rintro ⟨gb278, gb279⟩ w21 ⟨hS_, h0_, h1_, h2_, h3_, h4_, h5_, h6_, h7_, h8_, h9_, h10_, h11_, h12_, h13_, h14_, h15_, h16_, h17_, h18_⟩
           have n0_ : Aside0 (w21.heap[gb264]? = some (.cells #[.bool a2_0, .int .i64 a2_1, .int .i64 a2_2] 23 (0, 0))) := ⟨h0_⟩
           have n1_ : Aside0 (w21.heap[gb265]? = some (.cells #[.bool a3_0, .int .i64 a3_1, .int .i64 a3_2] 23 (0, 0))) := ⟨h1_⟩
           have n2_ : Aside0 (w21.heap[gb278]? = some (.cells #[.bool false, .int .i64 0, .int .i64 0] 24 (0, 0))) := ⟨h2_⟩
           have n3_ : Aside0 (w21.heap[gb279]? = some (.cells #[.bool false, .int .i64 0, .int .i64 0] 24 (0, 0))) := ⟨h3_⟩
           have GW278 : Aside0 (w.heap.size ≤ gb278) := ⟨h4_⟩
           have GE278 : Aside0 (w.heap.size ≤ gb278) := ⟨h5_⟩
           have NB264_278 := A_ h6_
           have NB278_264 := A_ h7_
           have NB265_278 := A_ h8_
           have NB278_265 := A_ h9_
           have NB279_278 := A_ h10_
           have NB278_279 := A_ h11_
           have GW279 : Aside0 (w.heap.size ≤ gb279) := ⟨h12_⟩
           have GE279 : Aside0 (w.heap.size ≤ gb279) := ⟨h13_⟩
           have NB264_279 := A_ h14_
           have NB279_264 := A_ h15_
           have NB265_279 := A_ h16_
           have NB279_265 := A_ h17_
           have n18_ : Aside0 (Below w.heap.size w w21) := ⟨h18_⟩
           clear BK264 BK265 HB
           clear h0_ h1_ h2_ h3_ h4_ h5_ h6_ h7_ h8_ h9_ h10_ h11_ h12_ h13_ h14_ h15_ h16_ h17_ h18_
           have BK264 := n0_
           have BK265 := n1_
           have BK278 := n2_
           have BK279 := n3_
           have HB := n18_
           clear n0_ n1_ n2_ n3_ n18_
           have hHeld : w21.cell? ⟨gb264, 0, none⟩ = some (.bool a2_0) ∧ w21.cell? ⟨gb264, 1, none⟩ = some (.int .i64 a2_1) ∧ w21.cell? ⟨gb264, 2, none⟩ = some (.int .i64 a2_2) ∧ w21.cell? ⟨gb265, 0, none⟩ = some (.bool a3_0) ∧ w21.cell? ⟨gb265, 1, none⟩ = some (.int .i64 a3_1) ∧ w21.cell? ⟨gb265, 2, none⟩ = some (.int .i64 a3_2) := hS_
           refine norm_ (a' := ?_) ?_ ?_
           rotate_left
           ·simp only [putAll, Act.put, List.setIfInBounds_toArray, List.set_cons_zero, List.set_cons_succ]
            rfl
           refine one_ (i := 5) (N := some 19) #[true, true, true, true, true, true, false, false, false, false, true, true, false, false] rfl rfl (one_of HT_.out (by kernel_rfl)) (by decide) (fun K hK => ?_)
           refine goes_ Try.func10 (by kernel_rfl) rfl #[.agg #[.bool a3_0, .int .i64 a3_1, .int .i64 a3_2]] (by rfl) rfl rfl (by (try simp only [List.map_toArray, List.map_cons, List.map_nil]); first | done | rfl) ?_
           with_reducible refine (laws_toSpan.calls a3_0 a3_1 a3_2 t269 t270 t271 _ A6.out).mono ?_
           rintro e w22 ⟨rfl, hb⟩
           refine ⟨_, rfl, ?_⟩
           have n0_ := A_ (blk_below (bz_ BK264.out) hb)
           have n1_ := A_ (blk_below (bz_ BK265.out) hb)
           have n2_ := A_ (blk_below (bz_ BK278.out) hb)
           have n3_ := A_ (blk_below (bz_ BK279.out) hb)
           have n4_ := A_ (below_step (by repeat (first | (with_reducible first | exact HB.out | apply b1_ | apply b2_ | apply b3_ | apply c_ GE264 | apply c_ GE265 | apply c_ GE278 | apply c_ GE279) | exact HB.out)) hb)
           clear BK264 BK265
           clear BK278 BK279 HB
           have BK264 := n0_
           have BK265 := n1_
           have BK278 := n2_
           have BK279 := n3_
           have HB := n4_
           clear n0_ n1_ n2_ n3_ n4_
           (try clear hb)
           (try clear hb2)
           (try clear hk)
           (try clear hi)
           refine hK.out _ _ ⟨bc_ BK264.out 0, bc_ BK264.out 1, bc_ BK264.out 2, bc_ BK265.out 0, bc_ BK265.out 1, bc_ BK265.out 2⟩ (fun hHeld => ?_)
           clear hK K
           refine norm_ (a' := ?_) ?_ ?_
           rotate_left
           ·show Act.put _ (some 19) _ = _
            simp only [Act.put, x1_, x2_, x3_, i64_w, i32_w]
            rfl
           exact norm_ (by simp only [putAll, Act.put, x1_, x2_, x3_] <;> rfl) (hJ3_5_10_11 (gb278, gb279) _ ⟨hHeld, (bz_ BK264.out), (bz_ BK265.out), (bz_ BK278.out), (bz_ BK279.out), GW278.out, GE278.out, NB264_278.out, NB278_264.out, NB265_278.out, NB278_265.out, NB279_278.out, NB278_279.out, GW279.out, GE279.out, NB264_279.out, NB279_264.out, NB265_279.out, NB279_265.out, (by repeat (first | (with_reducible first | exact HB.out | apply b1_ | apply b2_ | apply b3_ | apply c_ GE264 | apply c_ GE265 | apply c_ GE278 | apply c_ GE279) | exact HB.out))⟩)
         ·skip
          rintro gb279 w21 ⟨hS_, h0_, h1_, h2_, h3_, h4_, h5_, h6_, h7_, h8_, h9_⟩
          have n0_ : Aside0 (w21.heap[gb264]? = some (.cells #[.bool a2_0, .int .i64 a2_1, .int .i64 a2_2] 23 (0, 0))) := ⟨h0_⟩
          have n1_ : Aside0 (w21.heap[gb265]? = some (.cells #[.bool a3_0, .int .i64 a3_1, .int .i64 a3_2] 23 (0, 0))) := ⟨h1_⟩
          have n2_ : Aside0 (w21.heap[gb279]? = some (.cells #[.bool false, .int .i64 0, .int .i64 0] 24 (0, 0))) := ⟨h2_⟩
          have GW279 : Aside0 (w.heap.size ≤ gb279) := ⟨h3_⟩
          have GE279 : Aside0 (w.heap.size ≤ gb279) := ⟨h4_⟩
          have NB264_279 := A_ h5_
          have NB279_264 := A_ h6_
          have NB265_279 := A_ h7_
          have NB279_265 := A_ h8_
          have n9_ : Aside0 (Below w.heap.size w w21) := ⟨h9_⟩
          clear BK264 BK265 HB
          clear h0_ h1_ h2_ h3_ h4_ h5_ h6_ h7_ h8_ h9_
          have BK264 := n0_
          have BK265 := n1_
          have BK279 := n2_
          have HB := n9_
          clear n0_ n1_ n2_ n9_
          have hHeld : w21.cell? ⟨gb264, 0, none⟩ = some (.bool a2_0) ∧ w21.cell? ⟨gb264, 1, none⟩ = some (.int .i64 a2_1) ∧ w21.cell? ⟨gb264, 2, none⟩ = some (.int .i64 a2_2) ∧ w21.cell? ⟨gb265, 0, none⟩ = some (.bool a3_0) ∧ w21.cell? ⟨gb265, 1, none⟩ = some (.int .i64 a3_1) ∧ w21.cell? ⟨gb265, 2, none⟩ = some (.int .i64 a3_2) := hS_
          refine norm_ (a' := ?_) ?_ ?_
          rotate_left
          ·simp only [putAll, Act.put, List.setIfInBounds_toArray, List.set_cons_zero, List.set_cons_succ]
           rfl
          refine two_ (i := 6) (j := 10) (Ni := some 20) (Nj := some 9) #[true, true, true, true, true, true, true, false, false, false, false, true, false, false] #[true, true, true, true, true, true, false, false, false, false, true, true, false, false] rfl rfl rfl rfl (two_of HT_.out (by kernel_rfl)) (by decide) (by decide) (fun K hK => ?_) (fun K hK => ?_)
          ·skip
           refine goes_ Try.func9 (by kernel_rfl) rfl #[.int .i64 a0, .int .i64 a1, .agg #[.bool t266, .int .i64 t267, .int .i64 t268], .agg #[.bool t269, .int .i64 t270, .int .i64 t271]] (by rfl) rfl rfl (by (try simp only [List.map_toArray, List.map_cons, List.map_nil]); first | done | rfl) ?_
           with_reducible refine (spec_RelMeet.calls k a0 a1 t266 t267 t268 t269 t270 t271 t272 t273 t274 t275 t276 t277 _ A7.out).mono ?_
           rintro e w22 ⟨rfl, hb⟩
           refine ⟨_, rfl, ?_⟩
           have n0_ := A_ (blk_below (bz_ BK264.out) hb)
           have n1_ := A_ (blk_below (bz_ BK265.out) hb)
           have n2_ := A_ (blk_below (bz_ BK279.out) hb)
           have n3_ := A_ (below_step (by repeat (first | (with_reducible first | exact HB.out | apply b1_ | apply b2_ | apply b3_ | apply c_ GE264 | apply c_ GE265 | apply c_ GE279) | exact HB.out)) hb)
           clear BK264 BK265
           clear BK279 HB
           have BK264 := n0_
           have BK265 := n1_
           have BK279 := n2_
           have HB := n3_
           clear n0_ n1_ n2_ n3_
           (try clear hb)
           (try clear hb2)
           (try clear hk)
           (try clear hi)
           refine hK.out _ _ ⟨bc_ BK264.out 0, bc_ BK264.out 1, bc_ BK264.out 2, bc_ BK265.out 0, bc_ BK265.out 1, bc_ BK265.out 2⟩ (fun hHeld => ?_)
           clear hK K
           refine norm_ (a' := ?_) ?_ ?_
           rotate_left
           ·show Act.put _ (some 20) _ = _
            simp only [Act.put, x1_, x2_, x3_, i64_w, i32_w]
            rfl
           refine pure_ (i := 7) (N := some 13) (v := ?_) (a' := ?_) #[true, true, true, true, true, true, true, true, false, false, false, true, false, false] rfl rfl (any_of HT_.out (by kernel_rfl)) (fun _ _ _ h => h) (Or.inl ⟨by rfl, ?_⟩) ?_ ?_
           rotate_left
           ·intro w'
            go_simp
            with_reducible rfl
           rotate_left
           ·simp only [Act.put, x1_, x2_, x3_, i64_w, i32_w]
            rfl
           refine pure_ (i := 8) (N := some 21) (v := ?_) (a' := ?_) #[true, true, true, true, true, true, true, true, true, false, false, true, false, false] rfl rfl (any_of HT_.out (by kernel_rfl)) (fun _ _ _ h => h) (Or.inl ⟨by rfl, ?_⟩) ?_ ?_
           rotate_left
           ·intro w'
            go_simp
            with_reducible rfl
           rotate_left
           ·simp only [Act.put, x1_, x2_, x3_, i64_w, i32_w]
            rfl
           refine pure_ (i := 9) (N := some 22) (v := ?_) (a' := ?_) #[true, true, true, true, true, true, true, true, true, true, false, true, false, false] rfl rfl (any_of HT_.out (by kernel_rfl)) (fun _ _ _ h => h) (Or.inl ⟨by rfl, ?_⟩) ?_ ?_
           rotate_left
           ·intro w'
            go_simp
            with_reducible rfl
           rotate_left
           ·simp only [Act.put, x1_, x2_, x3_, i64_w, i32_w]
            rfl
           exact norm_ (by simp only [putAll, Act.put, x1_, x2_, x3_] <;> rfl) (hJ3_5_6_11 (gb279) _ ⟨hHeld, (bz_ BK264.out), (bz_ BK265.out), (bz_ BK279.out), GW279.out, GE279.out, NB264_279.out, NB279_264.out, NB265_279.out, NB279_265.out, (by repeat (first | (with_reducible first | exact HB.out | apply b1_ | apply b2_ | apply b3_ | apply c_ GE264 | apply c_ GE265 | apply c_ GE279) | exact HB.out))⟩)
          ·skip
           refine box_step ?hg (N := 9) ?hd (cs := #[.bool false, .int .i64 0, .int .i64 0]) (t := 24) ?hr ?_; (case hd => rfl); (case hg => rfl); (case hr => first | (go_simp; done) | (go_simp; rfl))
           intro gb278 hg w22 hbox hb
           have n0_ := A_ (blk_below (bz_ BK264.out) hb)
           have n1_ := A_ (blk_below (bz_ BK265.out) hb)
           have n2_ := A_ (blk_below (bz_ BK279.out) hb)
           have n3_ := A_ (below_step (by repeat (first | (with_reducible first | exact HB.out | apply b1_ | apply b2_ | apply b3_ | apply c_ GE264 | apply c_ GE265 | apply c_ GE279) | exact HB.out)) hb)
           have n4_ := A_ (hbox)
           have n5_ := A_ (ge_ hg)
           have GE278 := n5_
           have NB264_278 := A_ (nl_ hg (bz_ BK264.out))
           have NB278_264 := A_ (ng_ hg (bz_ BK264.out))
           have NB265_278 := A_ (nl_ hg (bz_ BK265.out))
           have NB278_265 := A_ (ng_ hg (bz_ BK265.out))
           have NB279_278 := A_ (nl_ hg (bz_ BK279.out))
           have NB278_279 := A_ (ng_ hg (bz_ BK279.out))
           clear BK264 BK265
           clear BK279 HB
           have BK264 := n0_
           have BK265 := n1_
           have BK279 := n2_
           have HB := n3_
           have BK278 := n4_
           have GW278 := n5_
           clear n0_ n1_ n2_ n3_ n4_ n5_
           clear hb hbox hg
           refine hK.out _ _ ⟨bc_ BK264.out 0, bc_ BK264.out 1, bc_ BK264.out 2, bc_ BK265.out 0, bc_ BK265.out 1, bc_ BK265.out 2⟩ (fun hHeld => ?_)
           clear hK K
           refine norm_ (a' := ?_) ?_ ?_
           rotate_left
           ·show Act.put _ (some 9) _ = _
            simp only [Act.put, x1_, x2_, x3_, i64_w, i32_w]
            rfl
           exact norm_ (by simp only [putAll, Act.put, x1_, x2_, x3_] <;> rfl) (hJ3_5_10_11 (gb278, gb279) _ ⟨hHeld, (bz_ BK264.out), (bz_ BK265.out), (bz_ BK278.out), (bz_ BK279.out), GW278.out, GE278.out, NB264_278.out, NB278_264.out, NB265_278.out, NB278_265.out, NB279_278.out, NB278_279.out, GW279.out, GE279.out, NB264_279.out, NB279_264.out, NB265_279.out, NB279_265.out, (by repeat (first | (with_reducible first | exact HB.out | apply b1_ | apply b2_ | apply b3_ | apply c_ GE264 | apply c_ GE265 | apply c_ GE279 | apply c_ GE278) | exact HB.out))⟩)
        ·skip
         rintro gb278 w21 ⟨hS_, h0_, h1_, h2_, h3_, h4_, h5_, h6_, h7_, h8_, h9_⟩
         have n0_ : Aside0 (w21.heap[gb264]? = some (.cells #[.bool a2_0, .int .i64 a2_1, .int .i64 a2_2] 23 (0, 0))) := ⟨h0_⟩
         have n1_ : Aside0 (w21.heap[gb265]? = some (.cells #[.bool a3_0, .int .i64 a3_1, .int .i64 a3_2] 23 (0, 0))) := ⟨h1_⟩
         have n2_ : Aside0 (w21.heap[gb278]? = some (.cells #[.bool false, .int .i64 0, .int .i64 0] 24 (0, 0))) := ⟨h2_⟩
         have GW278 : Aside0 (w.heap.size ≤ gb278) := ⟨h3_⟩
         have GE278 : Aside0 (w.heap.size ≤ gb278) := ⟨h4_⟩
         have NB264_278 := A_ h5_
         have NB278_264 := A_ h6_
         have NB265_278 := A_ h7_
         have NB278_265 := A_ h8_
         have n9_ : Aside0 (Below w.heap.size w w21) := ⟨h9_⟩
         clear BK264 BK265 HB
         clear h0_ h1_ h2_ h3_ h4_ h5_ h6_ h7_ h8_ h9_
         have BK264 := n0_
         have BK265 := n1_
         have BK278 := n2_
         have HB := n9_
         clear n0_ n1_ n2_ n9_
         have hHeld : w21.cell? ⟨gb264, 0, none⟩ = some (.bool a2_0) ∧ w21.cell? ⟨gb264, 1, none⟩ = some (.int .i64 a2_1) ∧ w21.cell? ⟨gb264, 2, none⟩ = some (.int .i64 a2_2) ∧ w21.cell? ⟨gb265, 0, none⟩ = some (.bool a3_0) ∧ w21.cell? ⟨gb265, 1, none⟩ = some (.int .i64 a3_1) ∧ w21.cell? ⟨gb265, 2, none⟩ = some (.int .i64 a3_2) := hS_
         refine norm_ (a' := ?_) ?_ ?_
         rotate_left
         ·simp only [putAll, Act.put, List.setIfInBounds_toArray, List.set_cons_zero, List.set_cons_succ]
          rfl
         refine two_ (i := 6) (j := 11) (Ni := some 20) (Nj := some 10) #[true, true, true, true, true, true, true, false, false, false, true, false, false, false] #[true, true, true, true, true, true, false, false, false, false, true, true, false, false] rfl rfl rfl rfl (two_of HT_.out (by kernel_rfl)) (by decide) (by decide) (fun K hK => ?_) (fun K hK => ?_)
         ·skip
          refine goes_ Try.func9 (by kernel_rfl) rfl #[.int .i64 a0, .int .i64 a1, .agg #[.bool t266, .int .i64 t267, .int .i64 t268], .agg #[.bool t269, .int .i64 t270, .int .i64 t271]] (by rfl) rfl rfl (by (try simp only [List.map_toArray, List.map_cons, List.map_nil]); first | done | rfl) ?_
          with_reducible refine (spec_RelMeet.calls k a0 a1 t266 t267 t268 t269 t270 t271 t272 t273 t274 t275 t276 t277 _ A7.out).mono ?_
          rintro e w22 ⟨rfl, hb⟩
          refine ⟨_, rfl, ?_⟩
          have n0_ := A_ (blk_below (bz_ BK264.out) hb)
          have n1_ := A_ (blk_below (bz_ BK265.out) hb)
          have n2_ := A_ (blk_below (bz_ BK278.out) hb)
          have n3_ := A_ (below_step (by repeat (first | (with_reducible first | exact HB.out | apply b1_ | apply b2_ | apply b3_ | apply c_ GE264 | apply c_ GE265 | apply c_ GE278) | exact HB.out)) hb)
          clear BK264 BK265
          clear BK278 HB
          have BK264 := n0_
          have BK265 := n1_
          have BK278 := n2_
          have HB := n3_
          clear n0_ n1_ n2_ n3_
          (try clear hb)
          (try clear hb2)
          (try clear hk)
          (try clear hi)
          refine hK.out _ _ ⟨bc_ BK264.out 0, bc_ BK264.out 1, bc_ BK264.out 2, bc_ BK265.out 0, bc_ BK265.out 1, bc_ BK265.out 2⟩ (fun hHeld => ?_)
          clear hK K
          refine norm_ (a' := ?_) ?_ ?_
          rotate_left
          ·show Act.put _ (some 20) _ = _
           simp only [Act.put, x1_, x2_, x3_, i64_w, i32_w]
           rfl
          refine pure_ (i := 7) (N := some 13) (v := ?_) (a' := ?_) #[true, true, true, true, true, true, true, true, false, false, true, false, false, false] rfl rfl (any_of HT_.out (by kernel_rfl)) (fun _ _ _ h => h) (Or.inl ⟨by rfl, ?_⟩) ?_ ?_
          rotate_left
          ·intro w'
           go_simp
           with_reducible rfl
          rotate_left
          ·simp only [Act.put, x1_, x2_, x3_, i64_w, i32_w]
           rfl
          refine pure_ (i := 8) (N := some 21) (v := ?_) (a' := ?_) #[true, true, true, true, true, true, true, true, true, false, true, false, false, false] rfl rfl (any_of HT_.out (by kernel_rfl)) (fun _ _ _ h => h) (Or.inl ⟨by rfl, ?_⟩) ?_ ?_
          rotate_left
          ·intro w'
           go_simp
           with_reducible rfl
          rotate_left
          ·simp only [Act.put, x1_, x2_, x3_, i64_w, i32_w]
           rfl
          refine pure_ (i := 9) (N := some 22) (v := ?_) (a' := ?_) #[true, true, true, true, true, true, true, true, true, true, true, false, false, false] rfl rfl (any_of HT_.out (by kernel_rfl)) (fun _ _ _ h => h) (Or.inl ⟨by rfl, ?_⟩) ?_ ?_
          rotate_left
          ·intro w'
           go_simp
           with_reducible rfl
          rotate_left
          ·simp only [Act.put, x1_, x2_, x3_, i64_w, i32_w]
           rfl
          exact norm_ (by simp only [putAll, Act.put, x1_, x2_, x3_] <;> rfl) (hJ3_5_6_10 (gb278) _ ⟨hHeld, (bz_ BK264.out), (bz_ BK265.out), (bz_ BK278.out), GW278.out, GE278.out, NB264_278.out, NB278_264.out, NB265_278.out, NB278_265.out, (by repeat (first | (with_reducible first | exact HB.out | apply b1_ | apply b2_ | apply b3_ | apply c_ GE264 | apply c_ GE265 | apply c_ GE278) | exact HB.out))⟩)
         ·skip
          refine box_step ?hg (N := 10) ?hd (cs := #[.bool false, .int .i64 0, .int .i64 0]) (t := 24) ?hr ?_; (case hd => rfl); (case hg => rfl); (case hr => first | (go_simp; done) | (go_simp; rfl))
          intro gb279 hg w22 hbox hb
          have n0_ := A_ (blk_below (bz_ BK264.out) hb)
          have n1_ := A_ (blk_below (bz_ BK265.out) hb)
          have n2_ := A_ (blk_below (bz_ BK278.out) hb)
          have n3_ := A_ (below_step (by repeat (first | (with_reducible first | exact HB.out | apply b1_ | apply b2_ | apply b3_ | apply c_ GE264 | apply c_ GE265 | apply c_ GE278) | exact HB.out)) hb)
          have n4_ := A_ (hbox)
          have n5_ := A_ (ge_ hg)
          have GE279 := n5_
          have NB264_279 := A_ (nl_ hg (bz_ BK264.out))
          have NB279_264 := A_ (ng_ hg (bz_ BK264.out))
          have NB265_279 := A_ (nl_ hg (bz_ BK265.out))
          have NB279_265 := A_ (ng_ hg (bz_ BK265.out))
          have NB278_279 := A_ (nl_ hg (bz_ BK278.out))
          have NB279_278 := A_ (ng_ hg (bz_ BK278.out))
          clear BK264 BK265
          clear BK278 HB
          have BK264 := n0_
          have BK265 := n1_
          have BK278 := n2_
          have HB := n3_
          have BK279 := n4_
          have GW279 := n5_
          clear n0_ n1_ n2_ n3_ n4_ n5_
          clear hb hbox hg
          refine hK.out _ _ ⟨bc_ BK264.out 0, bc_ BK264.out 1, bc_ BK264.out 2, bc_ BK265.out 0, bc_ BK265.out 1, bc_ BK265.out 2⟩ (fun hHeld => ?_)
          clear hK K
          refine norm_ (a' := ?_) ?_ ?_
          rotate_left
          ·show Act.put _ (some 10) _ = _
           simp only [Act.put, x1_, x2_, x3_, i64_w, i32_w]
           rfl
          exact norm_ (by simp only [putAll, Act.put, x1_, x2_, x3_] <;> rfl) (hJ3_5_10_11 (gb278, gb279) _ ⟨hHeld, (bz_ BK264.out), (bz_ BK265.out), (bz_ BK278.out), (bz_ BK279.out), GW278.out, GE278.out, NB264_278.out, NB278_264.out, NB265_278.out, NB278_265.out, NB279_278.out, NB278_279.out, GW279.out, GE279.out, NB264_279.out, NB279_264.out, NB265_279.out, NB279_265.out, (by repeat (first | (with_reducible first | exact HB.out | apply b1_ | apply b2_ | apply b3_ | apply c_ GE264 | apply c_ GE265 | apply c_ GE278 | apply c_ GE279) | exact HB.out))⟩)
       ·skip
        rintro _ w21 ⟨hS_, h0_, h1_, h2_⟩
        have n0_ : Aside0 (w21.heap[gb264]? = some (.cells #[.bool a2_0, .int .i64 a2_1, .int .i64 a2_2] 23 (0, 0))) := ⟨h0_⟩
        have n1_ : Aside0 (w21.heap[gb265]? = some (.cells #[.bool a3_0, .int .i64 a3_1, .int .i64 a3_2] 23 (0, 0))) := ⟨h1_⟩
        have n2_ : Aside0 (Below w.heap.size w w21) := ⟨h2_⟩
        clear BK264 BK265 HB
        clear h0_ h1_ h2_
        have BK264 := n0_
        have BK265 := n1_
        have HB := n2_
        clear n0_ n1_ n2_
        have hHeld : w21.cell? ⟨gb264, 0, none⟩ = some (.bool a2_0) ∧ w21.cell? ⟨gb264, 1, none⟩ = some (.int .i64 a2_1) ∧ w21.cell? ⟨gb264, 2, none⟩ = some (.int .i64 a2_2) ∧ w21.cell? ⟨gb265, 0, none⟩ = some (.bool a3_0) ∧ w21.cell? ⟨gb265, 1, none⟩ = some (.int .i64 a3_1) ∧ w21.cell? ⟨gb265, 2, none⟩ = some (.int .i64 a3_2) := hS_
        refine norm_ (a' := ?_) ?_ ?_
        rotate_left
        ·simp only [putAll, Act.put, List.setIfInBounds_toArray, List.set_cons_zero, List.set_cons_succ]
         rfl
        refine two_ (i := 10) (j := 11) (Ni := some 9) (Nj := some 10) #[true, true, true, true, true, true, true, true, true, true, true, false, false, false] #[true, true, true, true, true, true, true, true, true, true, false, true, false, false] rfl rfl rfl rfl (two_of HT_.out (by kernel_rfl)) (by decide) (by decide) (fun K hK => ?_) (fun K hK => ?_)
        ·skip
         refine box_step ?hg (N := 9) ?hd (cs := #[.bool false, .int .i64 0, .int .i64 0]) (t := 24) ?hr ?_; (case hd => rfl); (case hg => rfl); (case hr => first | (go_simp; done) | (go_simp; rfl))
         intro gb278 hg w22 hbox hb
         have n0_ := A_ (blk_below (bz_ BK264.out) hb)
         have n1_ := A_ (blk_below (bz_ BK265.out) hb)
         have n2_ := A_ (below_step (by repeat (first | (with_reducible first | exact HB.out | apply b1_ | apply b2_ | apply b3_ | apply c_ GE264 | apply c_ GE265) | exact HB.out)) hb)
         have n3_ := A_ (hbox)
         have n4_ := A_ (ge_ hg)
         have GE278 := n4_
         have NB264_278 := A_ (nl_ hg (bz_ BK264.out))
         have NB278_264 := A_ (ng_ hg (bz_ BK264.out))
         have NB265_278 := A_ (nl_ hg (bz_ BK265.out))
         have NB278_265 := A_ (ng_ hg (bz_ BK265.out))
         clear BK264 BK265 HB
         have BK264 := n0_
         have BK265 := n1_
         have HB := n2_
         have BK278 := n3_
         have GW278 := n4_
         clear n0_ n1_ n2_ n3_ n4_
         clear hb hbox hg
         refine hK.out _ _ ⟨bc_ BK264.out 0, bc_ BK264.out 1, bc_ BK264.out 2, bc_ BK265.out 0, bc_ BK265.out 1, bc_ BK265.out 2⟩ (fun hHeld => ?_)
         clear hK K
         refine norm_ (a' := ?_) ?_ ?_
         rotate_left
         ·show Act.put _ (some 9) _ = _
          simp only [Act.put, x1_, x2_, x3_, i64_w, i32_w]
          rfl
         exact norm_ (by simp only [putAll, Act.put, x1_, x2_, x3_] <;> rfl) (hJ3_5_6_10 (gb278) _ ⟨hHeld, (bz_ BK264.out), (bz_ BK265.out), (bz_ BK278.out), GW278.out, GE278.out, NB264_278.out, NB278_264.out, NB265_278.out, NB278_265.out, (by repeat (first | (with_reducible first | exact HB.out | apply b1_ | apply b2_ | apply b3_ | apply c_ GE264 | apply c_ GE265 | apply c_ GE278) | exact HB.out))⟩)
        ·skip
         refine box_step ?hg (N := 10) ?hd (cs := #[.bool false, .int .i64 0, .int .i64 0]) (t := 24) ?hr ?_; (case hd => rfl); (case hg => rfl); (case hr => first | (go_simp; done) | (go_simp; rfl))
         intro gb279 hg w22 hbox hb
         have n0_ := A_ (blk_below (bz_ BK264.out) hb)
         have n1_ := A_ (blk_below (bz_ BK265.out) hb)
         have n2_ := A_ (below_step (by repeat (first | (with_reducible first | exact HB.out | apply b1_ | apply b2_ | apply b3_ | apply c_ GE264 | apply c_ GE265) | exact HB.out)) hb)
         have n3_ := A_ (hbox)
         have n4_ := A_ (ge_ hg)
         have GE279 := n4_
         have NB264_279 := A_ (nl_ hg (bz_ BK264.out))
         have NB279_264 := A_ (ng_ hg (bz_ BK264.out))
         have NB265_279 := A_ (nl_ hg (bz_ BK265.out))
         have NB279_265 := A_ (ng_ hg (bz_ BK265.out))
         clear BK264 BK265 HB
         have BK264 := n0_
         have BK265 := n1_
         have HB := n2_
         have BK279 := n3_
         have GW279 := n4_
         clear n0_ n1_ n2_ n3_ n4_
         clear hb hbox hg
         refine hK.out _ _ ⟨bc_ BK264.out 0, bc_ BK264.out 1, bc_ BK264.out 2, bc_ BK265.out 0, bc_ BK265.out 1, bc_ BK265.out 2⟩ (fun hHeld => ?_)
         clear hK K
         refine norm_ (a' := ?_) ?_ ?_
         rotate_left
         ·show Act.put _ (some 10) _ = _
          simp only [Act.put, x1_, x2_, x3_, i64_w, i32_w]
          rfl
         exact norm_ (by simp only [putAll, Act.put, x1_, x2_, x3_] <;> rfl) (hJ3_5_6_11 (gb279) _ ⟨hHeld, (bz_ BK264.out), (bz_ BK265.out), (bz_ BK279.out), GW279.out, GE279.out, NB264_279.out, NB279_264.out, NB265_279.out, NB279_265.out, (by repeat (first | (with_reducible first | exact HB.out | apply b1_ | apply b2_ | apply b3_ | apply c_ GE264 | apply c_ GE265 | apply c_ GE279) | exact HB.out))⟩)
      ·skip
       rintro ⟨gb278, gb279⟩ w22 ⟨hS_, h0_, h1_, h2_, h3_, h4_, h5_, h6_, h7_, h8_, h9_, h10_, h11_, h12_, h13_, h14_, h15_, h16_, h17_, h18_⟩
       have n0_ : Aside0 (w22.heap[gb264]? = some (.cells #[.bool a2_0, .int .i64 a2_1, .int .i64 a2_2] 23 (0, 0))) := ⟨h0_⟩
       have n1_ : Aside0 (w22.heap[gb265]? = some (.cells #[.bool a3_0, .int .i64 a3_1, .int .i64 a3_2] 23 (0, 0))) := ⟨h1_⟩
       have n2_ : Aside0 (w22.heap[gb278]? = some (.cells #[.bool false, .int .i64 0, .int .i64 0] 24 (0, 0))) := ⟨h2_⟩
       have n3_ : Aside0 (w22.heap[gb279]? = some (.cells #[.bool false, .int .i64 0, .int .i64 0] 24 (0, 0))) := ⟨h3_⟩
       have GW278 : Aside0 (w.heap.size ≤ gb278) := ⟨h4_⟩
       have GE278 : Aside0 (w.heap.size ≤ gb278) := ⟨h5_⟩
       have NB264_278 := A_ h6_
       have NB278_264 := A_ h7_
       have NB265_278 := A_ h8_
       have NB278_265 := A_ h9_
       have NB279_278 := A_ h10_
       have NB278_279 := A_ h11_
       have GW279 : Aside0 (w.heap.size ≤ gb279) := ⟨h12_⟩
       have GE279 : Aside0 (w.heap.size ≤ gb279) := ⟨h13_⟩
       have NB264_279 := A_ h14_
       have NB279_264 := A_ h15_
       have NB265_279 := A_ h16_
       have NB279_265 := A_ h17_
       have n18_ : Aside0 (Below w.heap.size w w22) := ⟨h18_⟩
       clear BK264 BK265 HB
       clear h0_ h1_ h2_ h3_ h4_ h5_ h6_ h7_ h8_ h9_ h10_ h11_ h12_ h13_ h14_ h15_ h16_ h17_ h18_
       have BK264 := n0_
       have BK265 := n1_
       have BK278 := n2_
       have BK279 := n3_
       have HB := n18_
       clear n0_ n1_ n2_ n3_ n18_
       have hHeld : w22.cell? ⟨gb264, 0, none⟩ = some (.bool a2_0) ∧ w22.cell? ⟨gb264, 1, none⟩ = some (.int .i64 a2_1) ∧ w22.cell? ⟨gb264, 2, none⟩ = some (.int .i64 a2_2) ∧ w22.cell? ⟨gb265, 0, none⟩ = some (.bool a3_0) ∧ w22.cell? ⟨gb265, 1, none⟩ = some (.int .i64 a3_1) ∧ w22.cell? ⟨gb265, 2, none⟩ = some (.int .i64 a3_2) := hS_
       refine norm_ (a' := ?_) ?_ ?_
       rotate_left
       ·simp only [putAll, Act.put, List.setIfInBounds_toArray, List.set_cons_zero, List.set_cons_succ]
        rfl
       refine one_ (i := 6) (N := some 20) #[true, true, true, true, true, true, true, false, false, false, true, true, false, false] rfl rfl (one_of HT_.out (by kernel_rfl)) (by decide) (fun K hK => ?_)
       refine goes_ Try.func9 (by kernel_rfl) rfl #[.int .i64 a0, .int .i64 a1, .agg #[.bool t266, .int .i64 t267, .int .i64 t268], .agg #[.bool t269, .int .i64 t270, .int .i64 t271]] (by rfl) rfl rfl (by (try simp only [List.map_toArray, List.map_cons, List.map_nil]); first | done | rfl) ?_
       with_reducible refine (spec_RelMeet.calls k a0 a1 t266 t267 t268 t269 t270 t271 t272 t273 t274 t275 t276 t277 _ A7.out).mono ?_
       rintro e w23 ⟨rfl, hb⟩
       refine ⟨_, rfl, ?_⟩
       have n0_ := A_ (blk_below (bz_ BK264.out) hb)
       have n1_ := A_ (blk_below (bz_ BK265.out) hb)
       have n2_ := A_ (blk_below (bz_ BK278.out) hb)
       have n3_ := A_ (blk_below (bz_ BK279.out) hb)
       have n4_ := A_ (below_step (by repeat (first | (with_reducible first | exact HB.out | apply b1_ | apply b2_ | apply b3_ | apply c_ GE264 | apply c_ GE265 | apply c_ GE278 | apply c_ GE279) | exact HB.out)) hb)
       clear BK264 BK265
       clear BK278 BK279 HB
       have BK264 := n0_
       have BK265 := n1_
       have BK278 := n2_
       have BK279 := n3_
       have HB := n4_
       clear n0_ n1_ n2_ n3_ n4_
       (try clear hb)
       (try clear hb2)
       (try clear hk)
       (try clear hi)
       refine hK.out _ _ ⟨bc_ BK264.out 0, bc_ BK264.out 1, bc_ BK264.out 2, bc_ BK265.out 0, bc_ BK265.out 1, bc_ BK265.out 2⟩ (fun hHeld => ?_)
       clear hK K
       refine norm_ (a' := ?_) ?_ ?_
       rotate_left
       ·show Act.put _ (some 20) _ = _
        simp only [Act.put, x1_, x2_, x3_, i64_w, i32_w]
        rfl
       refine pure_ (i := 7) (N := some 13) (v := ?_) (a' := ?_) #[true, true, true, true, true, true, true, true, false, false, true, true, false, false] rfl rfl (any_of HT_.out (by kernel_rfl)) (fun _ _ _ h => h) (Or.inl ⟨by rfl, ?_⟩) ?_ ?_
       rotate_left
       ·intro w'
        go_simp
        with_reducible rfl
       rotate_left
       ·simp only [Act.put, x1_, x2_, x3_, i64_w, i32_w]
        rfl
       refine pure_ (i := 8) (N := some 21) (v := ?_) (a' := ?_) #[true, true, true, true, true, true, true, true, true, false, true, true, false, false] rfl rfl (any_of HT_.out (by kernel_rfl)) (fun _ _ _ h => h) (Or.inl ⟨by rfl, ?_⟩) ?_ ?_
       rotate_left
       ·intro w'
        go_simp
        with_reducible rfl
       rotate_left
       ·simp only [Act.put, x1_, x2_, x3_, i64_w, i32_w]
        rfl
       refine pure_ (i := 9) (N := some 22) (v := ?_) (a' := ?_) #[true, true, true, true, true, true, true, true, true, true, true, true, false, false] rfl rfl (any_of HT_.out (by kernel_rfl)) (fun _ _ _ h => h) (Or.inl ⟨by rfl, ?_⟩) ?_ ?_
       rotate_left
       ·intro w'
        go_simp
        with_reducible rfl
       rotate_left
       ·simp only [Act.put, x1_, x2_, x3_, i64_w, i32_w]
        rfl
       exact norm_ (by simp only [putAll, Act.put, x1_, x2_, x3_] <;> rfl) (hJ3_5_6_10_11 (gb278, gb279) _ ⟨hHeld, (bz_ BK264.out), (bz_ BK265.out), (bz_ BK278.out), (bz_ BK279.out), GW278.out, GE278.out, NB264_278.out, NB278_264.out, NB265_278.out, NB278_265.out, NB279_278.out, NB278_279.out, GW279.out, GE279.out, NB264_279.out, NB279_264.out, NB265_279.out, NB279_265.out, (by repeat (first | (with_reducible first | exact HB.out | apply b1_ | apply b2_ | apply b3_ | apply c_ GE264 | apply c_ GE265 | apply c_ GE278 | apply c_ GE279) | exact HB.out))⟩)
     ·skip
      rintro gb279 w22 ⟨hS_, h0_, h1_, h2_, h3_, h4_, h5_, h6_, h7_, h8_, h9_⟩
      have n0_ : Aside0 (w22.heap[gb264]? = some (.cells #[.bool a2_0, .int .i64 a2_1, .int .i64 a2_2] 23 (0, 0))) := ⟨h0_⟩
      have n1_ : Aside0 (w22.heap[gb265]? = some (.cells #[.bool a3_0, .int .i64 a3_1, .int .i64 a3_2] 23 (0, 0))) := ⟨h1_⟩
      have n2_ : Aside0 (w22.heap[gb279]? = some (.cells #[.bool false, .int .i64 0, .int .i64 0] 24 (0, 0))) := ⟨h2_⟩
      have GW279 : Aside0 (w.heap.size ≤ gb279) := ⟨h3_⟩
      have GE279 : Aside0 (w.heap.size ≤ gb279) := ⟨h4_⟩
      have NB264_279 := A_ h5_
      have NB279_264 := A_ h6_
      have NB265_279 := A_ h7_
      have NB279_265 := A_ h8_
      have n9_ : Aside0 (Below w.heap.size w w22) := ⟨h9_⟩
      clear BK264 BK265 HB
      clear h0_ h1_ h2_ h3_ h4_ h5_ h6_ h7_ h8_ h9_
      have BK264 := n0_
      have BK265 := n1_
      have BK279 := n2_
      have HB := n9_
      clear n0_ n1_ n2_ n9_
      have hHeld : w22.cell? ⟨gb264, 0, none⟩ = some (.bool a2_0) ∧ w22.cell? ⟨gb264, 1, none⟩ = some (.int .i64 a2_1) ∧ w22.cell? ⟨gb264, 2, none⟩ = some (.int .i64 a2_2) ∧ w22.cell? ⟨gb265, 0, none⟩ = some (.bool a3_0) ∧ w22.cell? ⟨gb265, 1, none⟩ = some (.int .i64 a3_1) ∧ w22.cell? ⟨gb265, 2, none⟩ = some (.int .i64 a3_2) := hS_
      refine norm_ (a' := ?_) ?_ ?_
      rotate_left
      ·simp only [putAll, Act.put, List.setIfInBounds_toArray, List.set_cons_zero, List.set_cons_succ]
       rfl
      refine one_ (i := 10) (N := some 9) #[true, true, true, true, true, true, true, true, true, true, true, true, false, false] rfl rfl (one_of HT_.out (by kernel_rfl)) (by decide) (fun K hK => ?_)
      refine box_step ?hg (N := 9) ?hd (cs := #[.bool false, .int .i64 0, .int .i64 0]) (t := 24) ?hr ?_; (case hd => rfl); (case hg => rfl); (case hr => first | (go_simp; done) | (go_simp; rfl))
      intro gb278 hg w23 hbox hb
      have n0_ := A_ (blk_below (bz_ BK264.out) hb)
      have n1_ := A_ (blk_below (bz_ BK265.out) hb)
      have n2_ := A_ (blk_below (bz_ BK279.out) hb)
      have n3_ := A_ (below_step (by repeat (first | (with_reducible first | exact HB.out | apply b1_ | apply b2_ | apply b3_ | apply c_ GE264 | apply c_ GE265 | apply c_ GE279) | exact HB.out)) hb)
      have n4_ := A_ (hbox)
      have n5_ := A_ (ge_ hg)
      have GE278 := n5_
      have NB264_278 := A_ (nl_ hg (bz_ BK264.out))
      have NB278_264 := A_ (ng_ hg (bz_ BK264.out))
      have NB265_278 := A_ (nl_ hg (bz_ BK265.out))
      have NB278_265 := A_ (ng_ hg (bz_ BK265.out))
      have NB279_278 := A_ (nl_ hg (bz_ BK279.out))
      have NB278_279 := A_ (ng_ hg (bz_ BK279.out))
      clear BK264 BK265
      clear BK279 HB
      have BK264 := n0_
      have BK265 := n1_
      have BK279 := n2_
      have HB := n3_
      have BK278 := n4_
      have GW278 := n5_
      clear n0_ n1_ n2_ n3_ n4_ n5_
      clear hb hbox hg
      refine hK.out _ _ ⟨bc_ BK264.out 0, bc_ BK264.out 1, bc_ BK264.out 2, bc_ BK265.out 0, bc_ BK265.out 1, bc_ BK265.out 2⟩ (fun hHeld => ?_)
      clear hK K
      refine norm_ (a' := ?_) ?_ ?_
      rotate_left
      ·show Act.put _ (some 9) _ = _
       simp only [Act.put, x1_, x2_, x3_, i64_w, i32_w]
       rfl
      exact norm_ (by simp only [putAll, Act.put, x1_, x2_, x3_] <;> rfl) (hJ3_5_6_10_11 (gb278, gb279) _ ⟨hHeld, (bz_ BK264.out), (bz_ BK265.out), (bz_ BK278.out), (bz_ BK279.out), GW278.out, GE278.out, NB264_278.out, NB278_264.out, NB265_278.out, NB278_265.out, NB279_278.out, NB278_279.out, GW279.out, GE279.out, NB264_279.out, NB279_264.out, NB265_279.out, NB279_265.out, (by repeat (first | (with_reducible first | exact HB.out | apply b1_ | apply b2_ | apply b3_ | apply c_ GE264 | apply c_ GE265 | apply c_ GE279 | apply c_ GE278) | exact HB.out))⟩)
    ·skip
     rintro gb278 w22 ⟨hS_, h0_, h1_, h2_, h3_, h4_, h5_, h6_, h7_, h8_, h9_⟩
     have n0_ : Aside0 (w22.heap[gb264]? = some (.cells #[.bool a2_0, .int .i64 a2_1, .int .i64 a2_2] 23 (0, 0))) := ⟨h0_⟩
     have n1_ : Aside0 (w22.heap[gb265]? = some (.cells #[.bool a3_0, .int .i64 a3_1, .int .i64 a3_2] 23 (0, 0))) := ⟨h1_⟩
     have n2_ : Aside0 (w22.heap[gb278]? = some (.cells #[.bool false, .int .i64 0, .int .i64 0] 24 (0, 0))) := ⟨h2_⟩
     have GW278 : Aside0 (w.heap.size ≤ gb278) := ⟨h3_⟩
     have GE278 : Aside0 (w.heap.size ≤ gb278) := ⟨h4_⟩
     have NB264_278 := A_ h5_
     have NB278_264 := A_ h6_
     have NB265_278 := A_ h7_
     have NB278_265 := A_ h8_
     have n9_ : Aside0 (Below w.heap.size w w22) := ⟨h9_⟩
     clear BK264 BK265 HB
     clear h0_ h1_ h2_ h3_ h4_ h5_ h6_ h7_ h8_ h9_
     have BK264 := n0_
     have BK265 := n1_
     have BK278 := n2_
     have HB := n9_
     clear n0_ n1_ n2_ n9_
     have hHeld : w22.cell? ⟨gb264, 0, none⟩ = some (.bool a2_0) ∧ w22.cell? ⟨gb264, 1, none⟩ = some (.int .i64 a2_1) ∧ w22.cell? ⟨gb264, 2, none⟩ = some (.int .i64 a2_2) ∧ w22.cell? ⟨gb265, 0, none⟩ = some (.bool a3_0) ∧ w22.cell? ⟨gb265, 1, none⟩ = some (.int .i64 a3_1) ∧ w22.cell? ⟨gb265, 2, none⟩ = some (.int .i64 a3_2) := hS_
     refine norm_ (a' := ?_) ?_ ?_
     rotate_left
     ·simp only [putAll, Act.put, List.setIfInBounds_toArray, List.set_cons_zero, List.set_cons_succ]
      rfl
     refine one_ (i := 11) (N := some 10) #[true, true, true, true, true, true, true, true, true, true, true, true, false, false] rfl rfl (one_of HT_.out (by kernel_rfl)) (by decide) (fun K hK => ?_)
     refine box_step ?hg (N := 10) ?hd (cs := #[.bool false, .int .i64 0, .int .i64 0]) (t := 24) ?hr ?_; (case hd => rfl); (case hg => rfl); (case hr => first | (go_simp; done) | (go_simp; rfl))
     intro gb279 hg w23 hbox hb
     have n0_ := A_ (blk_below (bz_ BK264.out) hb)
     have n1_ := A_ (blk_below (bz_ BK265.out) hb)
     have n2_ := A_ (blk_below (bz_ BK278.out) hb)
     have n3_ := A_ (below_step (by repeat (first | (with_reducible first | exact HB.out | apply b1_ | apply b2_ | apply b3_ | apply c_ GE264 | apply c_ GE265 | apply c_ GE278) | exact HB.out)) hb)
     have n4_ := A_ (hbox)
     have n5_ := A_ (ge_ hg)
     have GE279 := n5_
     have NB264_279 := A_ (nl_ hg (bz_ BK264.out))
     have NB279_264 := A_ (ng_ hg (bz_ BK264.out))
     have NB265_279 := A_ (nl_ hg (bz_ BK265.out))
     have NB279_265 := A_ (ng_ hg (bz_ BK265.out))
     have NB278_279 := A_ (nl_ hg (bz_ BK278.out))
     have NB279_278 := A_ (ng_ hg (bz_ BK278.out))
     clear BK264 BK265
     clear BK278 HB
     have BK264 := n0_
     have BK265 := n1_
     have BK278 := n2_
     have HB := n3_
     have BK279 := n4_
     have GW279 := n5_
     clear n0_ n1_ n2_ n3_ n4_ n5_
     clear hb hbox hg
     refine hK.out _ _ ⟨bc_ BK264.out 0, bc_ BK264.out 1, bc_ BK264.out 2, bc_ BK265.out 0, bc_ BK265.out 1, bc_ BK265.out 2⟩ (fun hHeld => ?_)
     clear hK K
     refine norm_ (a' := ?_) ?_ ?_
     rotate_left
     ·show Act.put _ (some 10) _ = _
      simp only [Act.put, x1_, x2_, x3_, i64_w, i32_w]
      rfl
     exact norm_ (by simp only [putAll, Act.put, x1_, x2_, x3_] <;> rfl) (hJ3_5_6_10_11 (gb278, gb279) _ ⟨hHeld, (bz_ BK264.out), (bz_ BK265.out), (bz_ BK278.out), (bz_ BK279.out), GW278.out, GE278.out, NB264_278.out, NB278_264.out, NB265_278.out, NB278_265.out, NB279_278.out, NB278_279.out, GW279.out, GE279.out, NB264_279.out, NB279_264.out, NB265_279.out, NB279_265.out, (by repeat (first | (with_reducible first | exact HB.out | apply b1_ | apply b2_ | apply b3_ | apply c_ GE264 | apply c_ GE265 | apply c_ GE278 | apply c_ GE279) | exact HB.out))⟩)
   rintro ⟨gb278, gb279⟩ w23 ⟨hS_, h0_, h1_, h2_, h3_, h4_, h5_, h6_, h7_, h8_, h9_, h10_, h11_, h12_, h13_, h14_, h15_, h16_, h17_, h18_⟩
   have n0_ : Aside0 (w23.heap[gb264]? = some (.cells #[.bool a2_0, .int .i64 a2_1, .int .i64 a2_2] 23 (0, 0))) := ⟨h0_⟩
   have n1_ : Aside0 (w23.heap[gb265]? = some (.cells #[.bool a3_0, .int .i64 a3_1, .int .i64 a3_2] 23 (0, 0))) := ⟨h1_⟩
   have n2_ : Aside0 (w23.heap[gb278]? = some (.cells #[.bool false, .int .i64 0, .int .i64 0] 24 (0, 0))) := ⟨h2_⟩
   have n3_ : Aside0 (w23.heap[gb279]? = some (.cells #[.bool false, .int .i64 0, .int .i64 0] 24 (0, 0))) := ⟨h3_⟩
   have GW278 : Aside0 (w.heap.size ≤ gb278) := ⟨h4_⟩
   have GE278 : Aside0 (w.heap.size ≤ gb278) := ⟨h5_⟩
   have NB264_278 := A_ h6_
   have NB278_264 := A_ h7_
   have NB265_278 := A_ h8_
   have NB278_265 := A_ h9_
   have NB279_278 := A_ h10_
   have NB278_279 := A_ h11_
   have GW279 : Aside0 (w.heap.size ≤ gb279) := ⟨h12_⟩
   have GE279 : Aside0 (w.heap.size ≤ gb279) := ⟨h13_⟩
   have NB264_279 := A_ h14_
   have NB279_264 := A_ h15_
   have NB265_279 := A_ h16_
   have NB279_265 := A_ h17_
   have n18_ : Aside0 (Below w.heap.size w w23) := ⟨h18_⟩
   clear BK264 BK265 HB
   clear h0_ h1_ h2_ h3_ h4_ h5_ h6_ h7_ h8_ h9_ h10_ h11_ h12_ h13_ h14_ h15_ h16_ h17_ h18_
   have BK264 := n0_
   have BK265 := n1_
   have BK278 := n2_
   have BK279 := n3_
   have HB := n18_
   clear n0_ n1_ n2_ n3_ n18_
   have hHeld : w23.cell? ⟨gb264, 0, none⟩ = some (.bool a2_0) ∧ w23.cell? ⟨gb264, 1, none⟩ = some (.int .i64 a2_1) ∧ w23.cell? ⟨gb264, 2, none⟩ = some (.int .i64 a2_2) ∧ w23.cell? ⟨gb265, 0, none⟩ = some (.bool a3_0) ∧ w23.cell? ⟨gb265, 1, none⟩ = some (.int .i64 a3_1) ∧ w23.cell? ⟨gb265, 2, none⟩ = some (.int .i64 a3_2) := hS_
   refine norm_ (a' := ?_) ?_ ?_
   rotate_left
   ·simp only [putAll, Act.put, List.setIfInBounds_toArray, List.set_cons_zero, List.set_cons_succ]
    rfl
   refine one_ (i := 12) (N := none) #[true, true, true, true, true, true, true, true, true, true, true, true, true, false] rfl rfl (one_of HT_.out (by kernel_rfl)) (by decide) (fun K hK => ?_)
   have hs24 : w23.cell? ⟨gb278, 0, none⟩ = some (.bool false) := bc_ BK278.out 0
   have hfs24 := blk_frozen BK278.out 0
   have hns24_0 := NB264_278.out
   have hns24_1 := NB265_278.out
   have hns24_3 := NB279_278.out
   have hms24_0 := NB278_264.out
   have hms24_1 := NB278_265.out
   have hms24_3 := NB278_279.out
   have hs25 : w23.cell? ⟨gb278, 1, none⟩ = some (.int .i64 0) := bc_ BK278.out 1
   have hfs25 := blk_frozen BK278.out 1
   have hns25_0 := NB264_278.out
   have hns25_1 := NB265_278.out
   have hns25_3 := NB279_278.out
   have hms25_0 := NB278_264.out
   have hms25_1 := NB278_265.out
   have hms25_3 := NB278_279.out
   have hs26 : w23.cell? ⟨gb278, 2, none⟩ = some (.int .i64 0) := bc_ BK278.out 2
   have hfs26 := blk_frozen BK278.out 2
   have hns26_0 := NB264_278.out
   have hns26_1 := NB265_278.out
   have hns26_3 := NB279_278.out
   have hms26_0 := NB278_264.out
   have hms26_1 := NB278_265.out
   have hms26_3 := NB278_279.out
   refine skip_ (w1 := ?_) (by rfl) rfl ?_ ?_
   rotate_left
   ·go_simp
    rfl
   refine hK.out _ _ ⟨((cell_far (p := ⟨gb278, _, none⟩) NB264_278.out _).trans (((cell_far (p := ⟨gb278, _, none⟩) NB264_278.out _).trans (((cell_far (p := ⟨gb278, _, none⟩) NB264_278.out _).trans (hHeld.1)))))), ((cell_far (p := ⟨gb278, _, none⟩) NB264_278.out _).trans (((cell_far (p := ⟨gb278, _, none⟩) NB264_278.out _).trans (((cell_far (p := ⟨gb278, _, none⟩) NB264_278.out _).trans (hHeld.2.1)))))), ((cell_far (p := ⟨gb278, _, none⟩) NB264_278.out _).trans (((cell_far (p := ⟨gb278, _, none⟩) NB264_278.out _).trans (((cell_far (p := ⟨gb278, _, none⟩) NB264_278.out _).trans (hHeld.2.2.1)))))), ((cell_far (p := ⟨gb278, _, none⟩) NB265_278.out _).trans (((cell_far (p := ⟨gb278, _, none⟩) NB265_278.out _).trans (((cell_far (p := ⟨gb278, _, none⟩) NB265_278.out _).trans (hHeld.2.2.2.1)))))), ((cell_far (p := ⟨gb278, _, none⟩) NB265_278.out _).trans (((cell_far (p := ⟨gb278, _, none⟩) NB265_278.out _).trans (((cell_far (p := ⟨gb278, _, none⟩) NB265_278.out _).trans (hHeld.2.2.2.2.1)))))), ((cell_far (p := ⟨gb278, _, none⟩) NB265_278.out _).trans (((cell_far (p := ⟨gb278, _, none⟩) NB265_278.out _).trans (((cell_far (p := ⟨gb278, _, none⟩) NB265_278.out _).trans (hHeld.2.2.2.2.2))))))⟩ (fun hHeld => ?_)
   clear hK K
   refine one_ (i := 13) (N := none) #[true, true, true, true, true, true, true, true, true, true, true, true, true, true] rfl rfl (one_of HT_.out (by kernel_rfl)) (by decide) (fun K hK => ?_)
   have hs27 : w23.cell? ⟨gb279, 0, none⟩ = some (.bool false) := bc_ BK279.out 0
   have hfs27 := blk_frozen BK279.out 0
   have hns27_0 := NB264_279.out
   have hns27_1 := NB265_279.out
   have hns27_2 := NB278_279.out
   have hms27_0 := NB279_264.out
   have hms27_1 := NB279_265.out
   have hms27_2 := NB279_278.out
   have hs28 : w23.cell? ⟨gb279, 1, none⟩ = some (.int .i64 0) := bc_ BK279.out 1
   have hfs28 := blk_frozen BK279.out 1
   have hns28_0 := NB264_279.out
   have hns28_1 := NB265_279.out
   have hns28_2 := NB278_279.out
   have hms28_0 := NB279_264.out
   have hms28_1 := NB279_265.out
   have hms28_2 := NB279_278.out
   have hs29 : w23.cell? ⟨gb279, 2, none⟩ = some (.int .i64 0) := bc_ BK279.out 2
   have hfs29 := blk_frozen BK279.out 2
   have hns29_0 := NB264_279.out
   have hns29_1 := NB265_279.out
   have hns29_2 := NB278_279.out
   have hms29_0 := NB279_264.out
   have hms29_1 := NB279_265.out
   have hms29_2 := NB279_278.out
   refine skip_ (w1 := ?_) (by rfl) rfl ?_ ?_
   rotate_left
   ·go_simp
    rfl
   refine hK.out _ _ ⟨((cell_far (p := ⟨gb279, _, none⟩) NB264_279.out _).trans (((cell_far (p := ⟨gb279, _, none⟩) NB264_279.out _).trans (((cell_far (p := ⟨gb279, _, none⟩) NB264_279.out _).trans (hHeld.1)))))), ((cell_far (p := ⟨gb279, _, none⟩) NB264_279.out _).trans (((cell_far (p := ⟨gb279, _, none⟩) NB264_279.out _).trans (((cell_far (p := ⟨gb279, _, none⟩) NB264_279.out _).trans (hHeld.2.1)))))), ((cell_far (p := ⟨gb279, _, none⟩) NB264_279.out _).trans (((cell_far (p := ⟨gb279, _, none⟩) NB264_279.out _).trans (((cell_far (p := ⟨gb279, _, none⟩) NB264_279.out _).trans (hHeld.2.2.1)))))), ((cell_far (p := ⟨gb279, _, none⟩) NB265_279.out _).trans (((cell_far (p := ⟨gb279, _, none⟩) NB265_279.out _).trans (((cell_far (p := ⟨gb279, _, none⟩) NB265_279.out _).trans (hHeld.2.2.2.1)))))), ((cell_far (p := ⟨gb279, _, none⟩) NB265_279.out _).trans (((cell_far (p := ⟨gb279, _, none⟩) NB265_279.out _).trans (((cell_far (p := ⟨gb279, _, none⟩) NB265_279.out _).trans (hHeld.2.2.2.2.1)))))), ((cell_far (p := ⟨gb279, _, none⟩) NB265_279.out _).trans (((cell_far (p := ⟨gb279, _, none⟩) NB265_279.out _).trans (((cell_far (p := ⟨gb279, _, none⟩) NB265_279.out _).trans (hHeld.2.2.2.2.2))))))⟩ (fun hHeld => ?_)
   clear hK K
   refine done_ (done_of HT_.out (by kernel_rfl)) ?_
   try go_wp2
   have n0_ : Aside0 (((((((w23.setCell ⟨gb278, 0, none⟩ (.bool t272)).setCell ⟨gb278, 1, none⟩ (.int .i64 t273)).setCell ⟨gb278, 2, none⟩ (.int .i64 t274)).setCell ⟨gb279, 0, none⟩ (.bool t275)).setCell ⟨gb279, 1, none⟩ (.int .i64 t276)).setCell ⟨gb279, 2, none⟩ (.int .i64 t277)).heap[gb264]? = some (.cells #[.bool a2_0, .int .i64 a2_1, .int .i64 a2_2] 23 (0, 0))) := ⟨by (with_reducible repeat (first | apply bn_ | apply bd_ | apply ba_)); refine blk_far ?_ NB264_279.out _; (with_reducible repeat (first | apply bn_ | apply bd_ | apply ba_)); refine blk_far ?_ NB264_279.out _; (with_reducible repeat (first | apply bn_ | apply bd_ | apply ba_)); refine blk_far ?_ NB264_279.out _; (with_reducible repeat (first | apply bn_ | apply bd_ | apply ba_)); refine blk_far ?_ NB264_278.out _; (with_reducible repeat (first | apply bn_ | apply bd_ | apply ba_)); refine blk_far ?_ NB264_278.out _; (with_reducible repeat (first | apply bn_ | apply bd_ | apply ba_)); refine blk_far ?_ NB264_278.out _; (with_reducible repeat (first | apply bn_ | apply bd_ | apply ba_)); exact BK264.out⟩
   have n1_ : Aside0 (((((((w23.setCell ⟨gb278, 0, none⟩ (.bool t272)).setCell ⟨gb278, 1, none⟩ (.int .i64 t273)).setCell ⟨gb278, 2, none⟩ (.int .i64 t274)).setCell ⟨gb279, 0, none⟩ (.bool t275)).setCell ⟨gb279, 1, none⟩ (.int .i64 t276)).setCell ⟨gb279, 2, none⟩ (.int .i64 t277)).heap[gb265]? = some (.cells #[.bool a3_0, .int .i64 a3_1, .int .i64 a3_2] 23 (0, 0))) := ⟨by (with_reducible repeat (first | apply bn_ | apply bd_ | apply ba_)); refine blk_far ?_ NB265_279.out _; (with_reducible repeat (first | apply bn_ | apply bd_ | apply ba_)); refine blk_far ?_ NB265_279.out _; (with_reducible repeat (first | apply bn_ | apply bd_ | apply ba_)); refine blk_far ?_ NB265_279.out _; (with_reducible repeat (first | apply bn_ | apply bd_ | apply ba_)); refine blk_far ?_ NB265_278.out _; (with_reducible repeat (first | apply bn_ | apply bd_ | apply ba_)); refine blk_far ?_ NB265_278.out _; (with_reducible repeat (first | apply bn_ | apply bd_ | apply ba_)); refine blk_far ?_ NB265_278.out _; (with_reducible repeat (first | apply bn_ | apply bd_ | apply ba_)); exact BK265.out⟩
   have n2_ : Aside0 (((((((w23.setCell ⟨gb278, 0, none⟩ (.bool t272)).setCell ⟨gb278, 1, none⟩ (.int .i64 t273)).setCell ⟨gb278, 2, none⟩ (.int .i64 t274)).setCell ⟨gb279, 0, none⟩ (.bool t275)).setCell ⟨gb279, 1, none⟩ (.int .i64 t276)).setCell ⟨gb279, 2, none⟩ (.int .i64 t277)).heap[gb278]? = some (.cells #[.bool t272, .int .i64 t273, .int .i64 t274] 24 (0, 0))) := ⟨by (with_reducible repeat (first | apply bn_ | apply bd_ | apply ba_)); refine blk_far ?_ NB278_279.out _; (with_reducible repeat (first | apply bn_ | apply bd_ | apply ba_)); refine blk_far ?_ NB278_279.out _; (with_reducible repeat (first | apply bn_ | apply bd_ | apply ba_)); refine blk_far ?_ NB278_279.out _; (with_reducible repeat (first | apply bn_ | apply bd_ | apply ba_)); refine blk_put (cs := #[.bool t272, .int .i64 t273, .int .i64 0]) ?_ 2 _ (by first | rfl | (simp [*]; done)); (with_reducible repeat (first | apply bn_ | apply bd_ | apply ba_)); refine blk_put (cs := #[.bool t272, .int .i64 0, .int .i64 0]) ?_ 1 _ (by first | rfl | (simp [*]; done)); (with_reducible repeat (first | apply bn_ | apply bd_ | apply ba_)); refine blk_put (cs := #[.bool false, .int .i64 0, .int .i64 0]) ?_ 0 _ (by first | rfl | (simp [*]; done)); (with_reducible repeat (first | apply bn_ | apply bd_ | apply ba_)); exact BK278.out⟩
   have n3_ : Aside0 (((((((w23.setCell ⟨gb278, 0, none⟩ (.bool t272)).setCell ⟨gb278, 1, none⟩ (.int .i64 t273)).setCell ⟨gb278, 2, none⟩ (.int .i64 t274)).setCell ⟨gb279, 0, none⟩ (.bool t275)).setCell ⟨gb279, 1, none⟩ (.int .i64 t276)).setCell ⟨gb279, 2, none⟩ (.int .i64 t277)).heap[gb279]? = some (.cells #[.bool t275, .int .i64 t276, .int .i64 t277] 24 (0, 0))) := ⟨by (with_reducible repeat (first | apply bn_ | apply bd_ | apply ba_)); refine blk_put (cs := #[.bool t275, .int .i64 t276, .int .i64 0]) ?_ 2 _ (by first | rfl | (simp [*]; done)); (with_reducible repeat (first | apply bn_ | apply bd_ | apply ba_)); refine blk_put (cs := #[.bool t275, .int .i64 0, .int .i64 0]) ?_ 1 _ (by first | rfl | (simp [*]; done)); (with_reducible repeat (first | apply bn_ | apply bd_ | apply ba_)); refine blk_put (cs := #[.bool false, .int .i64 0, .int .i64 0]) ?_ 0 _ (by first | rfl | (simp [*]; done)); (with_reducible repeat (first | apply bn_ | apply bd_ | apply ba_)); refine blk_far ?_ NB279_278.out _; (with_reducible repeat (first | apply bn_ | apply bd_ | apply ba_)); refine blk_far ?_ NB279_278.out _; (with_reducible repeat (first | apply bn_ | apply bd_ | apply ba_)); refine blk_far ?_ NB279_278.out _; (with_reducible repeat (first | apply bn_ | apply bd_ | apply ba_)); exact BK279.out⟩
   have n4_ : Aside0 (Below w.heap.size w ((((((w23.setCell ⟨gb278, 0, none⟩ (.bool t272)).setCell ⟨gb278, 1, none⟩ (.int .i64 t273)).setCell ⟨gb278, 2, none⟩ (.int .i64 t274)).setCell ⟨gb279, 0, none⟩ (.bool t275)).setCell ⟨gb279, 1, none⟩ (.int .i64 t276)).setCell ⟨gb279, 2, none⟩ (.int .i64 t277))) := ⟨by repeat (first | (with_reducible first | exact HB.out | apply b1_ | apply b2_ | apply b3_ | apply c_ GE264 | apply c_ GE265 | apply c_ GE278 | apply c_ GE279) | exact HB.out)⟩
   (try clear BK264)
   (try clear BK265)
   (try clear BK278)
   (try clear BK279)
   (try clear HB)
   generalize ((((((w23.setCell ⟨gb278, 0, none⟩ (.bool t272)).setCell ⟨gb278, 1, none⟩ (.int .i64 t273)).setCell ⟨gb278, 2, none⟩ (.int .i64 t274)).setCell ⟨gb279, 0, none⟩ (.bool t275)).setCell ⟨gb279, 1, none⟩ (.int .i64 t276)).setCell ⟨gb279, 2, none⟩ (.int .i64 t277)) = w30 at n0_ n1_ n2_ n3_ n4_ ⊢
   have BK264 := n0_
   have BK265 := n1_
   have BK278 := n2_
   have BK279 := n3_
   have HB := n4_
   clear n0_ n1_ n2_ n3_ n4_
   have n0_ := A_ (blk_drew BK264.out)
   have n1_ := A_ (blk_drew BK265.out)
   have n2_ := A_ (blk_drew BK278.out)
   have n3_ := A_ (blk_drew BK279.out)
   have n4_ := A_ (below_drew1 HB.out)
   clear BK264 BK265
   clear BK278 BK279 HB
   have BK264 := n0_
   have BK265 := n1_
   have BK278 := n2_
   have BK279 := n3_
   have HB := n4_
   clear n0_ n1_ n2_ n3_ n4_
   refine start_ (n := 14) (S := fun w' => w'.cell? ⟨gb264, 0, none⟩ = some (.bool a2_0) ∧ w'.cell? ⟨gb264, 1, none⟩ = some (.int .i64 a2_1) ∧ w'.cell? ⟨gb264, 2, none⟩ = some (.int .i64 a2_2) ∧ w'.cell? ⟨gb265, 0, none⟩ = some (.bool a3_0) ∧ w'.cell? ⟨gb265, 1, none⟩ = some (.int .i64 a3_1) ∧ w'.cell? ⟨gb265, 2, none⟩ = some (.int .i64 a3_2)) (ds := []) #[false, false, false, false, false, false, false, false, false, false, false, false, false, false] (by kernel_rfl) rfl rfl ⟨bc_ BK264.out 0, bc_ BK264.out 1, bc_ BK264.out 2, bc_ BK265.out 0, bc_ BK265.out 1, bc_ BK265.out 2⟩ (fun hHeld => ?_); refine with_tabW laws_FnExactRelMeet.tab2 laws_FnExactRelMeet.bits2 (fun HT_ HW_ => ?_)
   generalize w30.drew = w31 at BK264 BK265 BK278 BK279 HB hHeld ⊢
   refine pure_ (i := 0) (N := some 24) (v := ?_) (a' := ?_) #[true, false, false, false, false, false, false, false, false, false, false, false, false, false] rfl rfl (any_of HT_.out (by kernel_rfl)) (fun _ _ _ h => h) (Or.inl ⟨by rfl, ?_⟩) ?_ ?_
   rotate_left
   ·intro w'
    go_simp
    with_reducible rfl
   rotate_left
   ·simp only [Act.put, x1_, x2_, x3_, i64_w, i32_w]
    rfl
   refine pure_ (i := 1) (N := some 25) (v := ?_) (a' := ?_) #[true, true, false, false, false, false, false, false, false, false, false, false, false, false] rfl rfl (any_of HT_.out (by kernel_rfl)) (fun _ _ _ h => h) (Or.inl ⟨by rfl, ?_⟩) ?_ ?_
   rotate_left
   ·intro w'
    go_simp
    with_reducible rfl
   rotate_left
   ·simp only [Act.put, x1_, x2_, x3_, i64_w, i32_w]
    rfl
   refine take_ (i := 2) (N := some 26) (v := ?_) (a' := ?_) #[true, true, true, false, false, false, false, false, false, false, false, false, false, false] rfl rfl (take_ofW HT_.out HW_.out (by kernel_rfl)) (fun _ _ _ h => h) (Or.inl ⟨by rfl, ?_⟩) hHeld ?_ ?_
   rotate_left
   ·rintro w' ⟨s0, s1, s2, s3, s4, s5⟩
    go_simp
    with_reducible rfl
   rotate_left
   ·simp only [Act.put, x1_, x2_, x3_, i64_w, i32_w]
    rfl
   refine take_ (i := 4) (N := some 28) (v := ?_) (a' := ?_) #[true, true, true, false, true, false, false, false, false, false, false, false, false, false] rfl rfl (take_ofW HT_.out HW_.out (by kernel_rfl)) (fun _ _ _ h => h) (Or.inl ⟨by rfl, ?_⟩) hHeld ?_ ?_
   rotate_left
   ·rintro w' ⟨s0, s1, s2, s3, s4, s5⟩
    go_simp
    with_reducible rfl
   rotate_left
   ·simp only [Act.put, x1_, x2_, x3_, i64_w, i32_w]
    rfl
   refine join_ (σ := Nat × Nat) 2 #[true, true, true, true, true, true, true, true, true, true, true, true, false, false] (fun s_ => [(27, .agg #[.bool t266, .int .i64 t267, .int .i64 t268]), (29, .agg #[.bool t269, .int .i64 t270, .int .i64 t271]), (30, .tuple #[.agg #[.bool t286, .int .i64 t287, .int .i64 t288], .agg #[.bool t289, .int .i64 t290, .int .i64 t291]]), (11, .pointer (some ⟨s_.1, 0, none⟩)), (12, .pointer (some ⟨s_.2, 0, none⟩)), (23, .tuple #[.agg #[.bool t286, .int .i64 t287, .int .i64 t288], .agg #[.bool t289, .int .i64 t290, .int .i64 t291]]), (31, .agg #[.bool t286, .int .i64 t287, .int .i64 t288]), (32, .agg #[.bool t289, .int .i64 t290, .int .i64 t291])]) (fun s_ w' => (w'.cell? ⟨gb264, 0, none⟩ = some (.bool a2_0) ∧ w'.cell? ⟨gb264, 1, none⟩ = some (.int .i64 a2_1) ∧ w'.cell? ⟨gb264, 2, none⟩ = some (.int .i64 a2_2) ∧ w'.cell? ⟨gb265, 0, none⟩ = some (.bool a3_0) ∧ w'.cell? ⟨gb265, 1, none⟩ = some (.int .i64 a3_1) ∧ w'.cell? ⟨gb265, 2, none⟩ = some (.int .i64 a3_2)) ∧ (w'.heap[gb264]? = some (.cells #[.bool a2_0, .int .i64 a2_1, .int .i64 a2_2] 23 (0, 0))) ∧ (w'.heap[gb265]? = some (.cells #[.bool a3_0, .int .i64 a3_1, .int .i64 a3_2] 23 (0, 0))) ∧ (w'.heap[gb278]? = some (.cells #[.bool t272, .int .i64 t273, .int .i64 t274] 24 (0, 0))) ∧ (w'.heap[gb279]? = some (.cells #[.bool t275, .int .i64 t276, .int .i64 t277] 24 (0, 0))) ∧ (w'.heap[s_.1]? = some (.cells #[.bool false, .int .i64 0, .int .i64 0] 24 (0, 0))) ∧ (w'.heap[s_.2]? = some (.cells #[.bool false, .int .i64 0, .int .i64 0] 24 (0, 0))) ∧ (w.heap.size ≤ s_.1) ∧ (w.heap.size ≤ s_.1) ∧ (gb264 ≠ s_.1) ∧ (s_.1 ≠ gb264) ∧ (gb265 ≠ s_.1) ∧ (s_.1 ≠ gb265) ∧ (gb278 ≠ s_.1) ∧ (s_.1 ≠ gb278) ∧ (gb279 ≠ s_.1) ∧ (s_.1 ≠ gb279) ∧ (s_.2 ≠ s_.1) ∧ (s_.1 ≠ s_.2) ∧ (w.heap.size ≤ s_.2) ∧ (w.heap.size ≤ s_.2) ∧ (gb264 ≠ s_.2) ∧ (s_.2 ≠ gb264) ∧ (gb265 ≠ s_.2) ∧ (s_.2 ≠ gb265) ∧ (gb278 ≠ s_.2) ∧ (s_.2 ≠ gb278) ∧ (gb279 ≠ s_.2) ∧ (s_.2 ≠ gb279) ∧ (Below w.heap.size w w')) ?_ ?_
   rotate_left
   ·intro hJ3_5_6_10_11
    refine join_ (σ := Nat) 3 #[true, true, true, true, true, true, true, true, true, true, true, false, false, false] (fun s_ => [(27, .agg #[.bool t266, .int .i64 t267, .int .i64 t268]), (29, .agg #[.bool t269, .int .i64 t270, .int .i64 t271]), (30, .tuple #[.agg #[.bool t286, .int .i64 t287, .int .i64 t288], .agg #[.bool t289, .int .i64 t290, .int .i64 t291]]), (11, .pointer (some ⟨s_, 0, none⟩)), (23, .tuple #[.agg #[.bool t286, .int .i64 t287, .int .i64 t288], .agg #[.bool t289, .int .i64 t290, .int .i64 t291]]), (31, .agg #[.bool t286, .int .i64 t287, .int .i64 t288]), (32, .agg #[.bool t289, .int .i64 t290, .int .i64 t291])]) (fun s_ w' => (w'.cell? ⟨gb264, 0, none⟩ = some (.bool a2_0) ∧ w'.cell? ⟨gb264, 1, none⟩ = some (.int .i64 a2_1) ∧ w'.cell? ⟨gb264, 2, none⟩ = some (.int .i64 a2_2) ∧ w'.cell? ⟨gb265, 0, none⟩ = some (.bool a3_0) ∧ w'.cell? ⟨gb265, 1, none⟩ = some (.int .i64 a3_1) ∧ w'.cell? ⟨gb265, 2, none⟩ = some (.int .i64 a3_2)) ∧ (w'.heap[gb264]? = some (.cells #[.bool a2_0, .int .i64 a2_1, .int .i64 a2_2] 23 (0, 0))) ∧ (w'.heap[gb265]? = some (.cells #[.bool a3_0, .int .i64 a3_1, .int .i64 a3_2] 23 (0, 0))) ∧ (w'.heap[gb278]? = some (.cells #[.bool t272, .int .i64 t273, .int .i64 t274] 24 (0, 0))) ∧ (w'.heap[gb279]? = some (.cells #[.bool t275, .int .i64 t276, .int .i64 t277] 24 (0, 0))) ∧ (w'.heap[s_]? = some (.cells #[.bool false, .int .i64 0, .int .i64 0] 24 (0, 0))) ∧ (w.heap.size ≤ s_) ∧ (w.heap.size ≤ s_) ∧ (gb264 ≠ s_) ∧ (s_ ≠ gb264) ∧ (gb265 ≠ s_) ∧ (s_ ≠ gb265) ∧ (gb278 ≠ s_) ∧ (s_ ≠ gb278) ∧ (gb279 ≠ s_) ∧ (s_ ≠ gb279) ∧ (Below w.heap.size w w')) ?_ ?_
    rotate_left
    ·intro hJ3_5_6_10
     refine join_ (σ := Nat) 3 #[true, true, true, true, true, true, true, true, true, true, false, true, false, false] (fun s_ => [(27, .agg #[.bool t266, .int .i64 t267, .int .i64 t268]), (29, .agg #[.bool t269, .int .i64 t270, .int .i64 t271]), (30, .tuple #[.agg #[.bool t286, .int .i64 t287, .int .i64 t288], .agg #[.bool t289, .int .i64 t290, .int .i64 t291]]), (12, .pointer (some ⟨s_, 0, none⟩)), (23, .tuple #[.agg #[.bool t286, .int .i64 t287, .int .i64 t288], .agg #[.bool t289, .int .i64 t290, .int .i64 t291]]), (31, .agg #[.bool t286, .int .i64 t287, .int .i64 t288]), (32, .agg #[.bool t289, .int .i64 t290, .int .i64 t291])]) (fun s_ w' => (w'.cell? ⟨gb264, 0, none⟩ = some (.bool a2_0) ∧ w'.cell? ⟨gb264, 1, none⟩ = some (.int .i64 a2_1) ∧ w'.cell? ⟨gb264, 2, none⟩ = some (.int .i64 a2_2) ∧ w'.cell? ⟨gb265, 0, none⟩ = some (.bool a3_0) ∧ w'.cell? ⟨gb265, 1, none⟩ = some (.int .i64 a3_1) ∧ w'.cell? ⟨gb265, 2, none⟩ = some (.int .i64 a3_2)) ∧ (w'.heap[gb264]? = some (.cells #[.bool a2_0, .int .i64 a2_1, .int .i64 a2_2] 23 (0, 0))) ∧ (w'.heap[gb265]? = some (.cells #[.bool a3_0, .int .i64 a3_1, .int .i64 a3_2] 23 (0, 0))) ∧ (w'.heap[gb278]? = some (.cells #[.bool t272, .int .i64 t273, .int .i64 t274] 24 (0, 0))) ∧ (w'.heap[gb279]? = some (.cells #[.bool t275, .int .i64 t276, .int .i64 t277] 24 (0, 0))) ∧ (w'.heap[s_]? = some (.cells #[.bool false, .int .i64 0, .int .i64 0] 24 (0, 0))) ∧ (w.heap.size ≤ s_) ∧ (w.heap.size ≤ s_) ∧ (gb264 ≠ s_) ∧ (s_ ≠ gb264) ∧ (gb265 ≠ s_) ∧ (s_ ≠ gb265) ∧ (gb278 ≠ s_) ∧ (s_ ≠ gb278) ∧ (gb279 ≠ s_) ∧ (s_ ≠ gb279) ∧ (Below w.heap.size w w')) ?_ ?_
     rotate_left
     ·intro hJ3_5_6_11
      refine join_ (σ := Nat × Nat) 6 #[true, true, true, true, true, true, false, false, false, false, true, true, false, false] (fun s_ => [(27, .agg #[.bool t266, .int .i64 t267, .int .i64 t268]), (29, .agg #[.bool t269, .int .i64 t270, .int .i64 t271]), (11, .pointer (some ⟨s_.1, 0, none⟩)), (12, .pointer (some ⟨s_.2, 0, none⟩))]) (fun s_ w' => (w'.cell? ⟨gb264, 0, none⟩ = some (.bool a2_0) ∧ w'.cell? ⟨gb264, 1, none⟩ = some (.int .i64 a2_1) ∧ w'.cell? ⟨gb264, 2, none⟩ = some (.int .i64 a2_2) ∧ w'.cell? ⟨gb265, 0, none⟩ = some (.bool a3_0) ∧ w'.cell? ⟨gb265, 1, none⟩ = some (.int .i64 a3_1) ∧ w'.cell? ⟨gb265, 2, none⟩ = some (.int .i64 a3_2)) ∧ (w'.heap[gb264]? = some (.cells #[.bool a2_0, .int .i64 a2_1, .int .i64 a2_2] 23 (0, 0))) ∧ (w'.heap[gb265]? = some (.cells #[.bool a3_0, .int .i64 a3_1, .int .i64 a3_2] 23 (0, 0))) ∧ (w'.heap[gb278]? = some (.cells #[.bool t272, .int .i64 t273, .int .i64 t274] 24 (0, 0))) ∧ (w'.heap[gb279]? = some (.cells #[.bool t275, .int .i64 t276, .int .i64 t277] 24 (0, 0))) ∧ (w'.heap[s_.1]? = some (.cells #[.bool false, .int .i64 0, .int .i64 0] 24 (0, 0))) ∧ (w'.heap[s_.2]? = some (.cells #[.bool false, .int .i64 0, .int .i64 0] 24 (0, 0))) ∧ (w.heap.size ≤ s_.1) ∧ (w.heap.size ≤ s_.1) ∧ (gb264 ≠ s_.1) ∧ (s_.1 ≠ gb264) ∧ (gb265 ≠ s_.1) ∧ (s_.1 ≠ gb265) ∧ (gb278 ≠ s_.1) ∧ (s_.1 ≠ gb278) ∧ (gb279 ≠ s_.1) ∧ (s_.1 ≠ gb279) ∧ (s_.2 ≠ s_.1) ∧ (s_.1 ≠ s_.2) ∧ (w.heap.size ≤ s_.2) ∧ (w.heap.size ≤ s_.2) ∧ (gb264 ≠ s_.2) ∧ (s_.2 ≠ gb264) ∧ (gb265 ≠ s_.2) ∧ (s_.2 ≠ gb265) ∧ (gb278 ≠ s_.2) ∧ (s_.2 ≠ gb278) ∧ (gb279 ≠ s_.2) ∧ (s_.2 ≠ gb279) ∧ (Below w.heap.size w w')) ?_ ?_
      rotate_left
      ·intro hJ3_5_10_11
       refine join_ (σ := Unit) 4 #[true, true, true, true, true, true, true, true, true, true, false, false, false, false] (fun s_ => [(27, .agg #[.bool t266, .int .i64 t267, .int .i64 t268]), (29, .agg #[.bool t269, .int .i64 t270, .int .i64 t271]), (30, .tuple #[.agg #[.bool t286, .int .i64 t287, .int .i64 t288], .agg #[.bool t289, .int .i64 t290, .int .i64 t291]]), (23, .tuple #[.agg #[.bool t286, .int .i64 t287, .int .i64 t288], .agg #[.bool t289, .int .i64 t290, .int .i64 t291]]), (31, .agg #[.bool t286, .int .i64 t287, .int .i64 t288]), (32, .agg #[.bool t289, .int .i64 t290, .int .i64 t291])]) (fun s_ w' => (w'.cell? ⟨gb264, 0, none⟩ = some (.bool a2_0) ∧ w'.cell? ⟨gb264, 1, none⟩ = some (.int .i64 a2_1) ∧ w'.cell? ⟨gb264, 2, none⟩ = some (.int .i64 a2_2) ∧ w'.cell? ⟨gb265, 0, none⟩ = some (.bool a3_0) ∧ w'.cell? ⟨gb265, 1, none⟩ = some (.int .i64 a3_1) ∧ w'.cell? ⟨gb265, 2, none⟩ = some (.int .i64 a3_2)) ∧ (w'.heap[gb264]? = some (.cells #[.bool a2_0, .int .i64 a2_1, .int .i64 a2_2] 23 (0, 0))) ∧ (w'.heap[gb265]? = some (.cells #[.bool a3_0, .int .i64 a3_1, .int .i64 a3_2] 23 (0, 0))) ∧ (w'.heap[gb278]? = some (.cells #[.bool t272, .int .i64 t273, .int .i64 t274] 24 (0, 0))) ∧ (w'.heap[gb279]? = some (.cells #[.bool t275, .int .i64 t276, .int .i64 t277] 24 (0, 0))) ∧ (Below w.heap.size w w')) ?_ ?_
       rotate_left
       ·intro hJ3_5_6
        refine join_ (σ := Nat) 7 #[true, true, true, true, true, true, false, false, false, false, true, false, false, false] (fun s_ => [(27, .agg #[.bool t266, .int .i64 t267, .int .i64 t268]), (29, .agg #[.bool t269, .int .i64 t270, .int .i64 t271]), (11, .pointer (some ⟨s_, 0, none⟩))]) (fun s_ w' => (w'.cell? ⟨gb264, 0, none⟩ = some (.bool a2_0) ∧ w'.cell? ⟨gb264, 1, none⟩ = some (.int .i64 a2_1) ∧ w'.cell? ⟨gb264, 2, none⟩ = some (.int .i64 a2_2) ∧ w'.cell? ⟨gb265, 0, none⟩ = some (.bool a3_0) ∧ w'.cell? ⟨gb265, 1, none⟩ = some (.int .i64 a3_1) ∧ w'.cell? ⟨gb265, 2, none⟩ = some (.int .i64 a3_2)) ∧ (w'.heap[gb264]? = some (.cells #[.bool a2_0, .int .i64 a2_1, .int .i64 a2_2] 23 (0, 0))) ∧ (w'.heap[gb265]? = some (.cells #[.bool a3_0, .int .i64 a3_1, .int .i64 a3_2] 23 (0, 0))) ∧ (w'.heap[gb278]? = some (.cells #[.bool t272, .int .i64 t273, .int .i64 t274] 24 (0, 0))) ∧ (w'.heap[gb279]? = some (.cells #[.bool t275, .int .i64 t276, .int .i64 t277] 24 (0, 0))) ∧ (w'.heap[s_]? = some (.cells #[.bool false, .int .i64 0, .int .i64 0] 24 (0, 0))) ∧ (w.heap.size ≤ s_) ∧ (w.heap.size ≤ s_) ∧ (gb264 ≠ s_) ∧ (s_ ≠ gb264) ∧ (gb265 ≠ s_) ∧ (s_ ≠ gb265) ∧ (gb278 ≠ s_) ∧ (s_ ≠ gb278) ∧ (gb279 ≠ s_) ∧ (s_ ≠ gb279) ∧ (Below w.heap.size w w')) ?_ ?_
        rotate_left
        ·intro hJ3_5_10
         refine join_ (σ := Nat) 7 #[true, true, true, true, true, true, false, false, false, false, false, true, false, false] (fun s_ => [(27, .agg #[.bool t266, .int .i64 t267, .int .i64 t268]), (29, .agg #[.bool t269, .int .i64 t270, .int .i64 t271]), (12, .pointer (some ⟨s_, 0, none⟩))]) (fun s_ w' => (w'.cell? ⟨gb264, 0, none⟩ = some (.bool a2_0) ∧ w'.cell? ⟨gb264, 1, none⟩ = some (.int .i64 a2_1) ∧ w'.cell? ⟨gb264, 2, none⟩ = some (.int .i64 a2_2) ∧ w'.cell? ⟨gb265, 0, none⟩ = some (.bool a3_0) ∧ w'.cell? ⟨gb265, 1, none⟩ = some (.int .i64 a3_1) ∧ w'.cell? ⟨gb265, 2, none⟩ = some (.int .i64 a3_2)) ∧ (w'.heap[gb264]? = some (.cells #[.bool a2_0, .int .i64 a2_1, .int .i64 a2_2] 23 (0, 0))) ∧ (w'.heap[gb265]? = some (.cells #[.bool a3_0, .int .i64 a3_1, .int .i64 a3_2] 23 (0, 0))) ∧ (w'.heap[gb278]? = some (.cells #[.bool t272, .int .i64 t273, .int .i64 t274] 24 (0, 0))) ∧ (w'.heap[gb279]? = some (.cells #[.bool t275, .int .i64 t276, .int .i64 t277] 24 (0, 0))) ∧ (w'.heap[s_]? = some (.cells #[.bool false, .int .i64 0, .int .i64 0] 24 (0, 0))) ∧ (w.heap.size ≤ s_) ∧ (w.heap.size ≤ s_) ∧ (gb264 ≠ s_) ∧ (s_ ≠ gb264) ∧ (gb265 ≠ s_) ∧ (s_ ≠ gb265) ∧ (gb278 ≠ s_) ∧ (s_ ≠ gb278) ∧ (gb279 ≠ s_) ∧ (s_ ≠ gb279) ∧ (Below w.heap.size w w')) ?_ ?_
         rotate_left
         ·intro hJ3_5_11
          refine join_ (σ := Nat × Nat) 7 #[true, true, true, true, true, false, false, false, false, false, true, true, false, false] (fun s_ => [(27, .agg #[.bool t266, .int .i64 t267, .int .i64 t268]), (11, .pointer (some ⟨s_.1, 0, none⟩)), (12, .pointer (some ⟨s_.2, 0, none⟩))]) (fun s_ w' => (w'.cell? ⟨gb264, 0, none⟩ = some (.bool a2_0) ∧ w'.cell? ⟨gb264, 1, none⟩ = some (.int .i64 a2_1) ∧ w'.cell? ⟨gb264, 2, none⟩ = some (.int .i64 a2_2) ∧ w'.cell? ⟨gb265, 0, none⟩ = some (.bool a3_0) ∧ w'.cell? ⟨gb265, 1, none⟩ = some (.int .i64 a3_1) ∧ w'.cell? ⟨gb265, 2, none⟩ = some (.int .i64 a3_2)) ∧ (w'.heap[gb264]? = some (.cells #[.bool a2_0, .int .i64 a2_1, .int .i64 a2_2] 23 (0, 0))) ∧ (w'.heap[gb265]? = some (.cells #[.bool a3_0, .int .i64 a3_1, .int .i64 a3_2] 23 (0, 0))) ∧ (w'.heap[gb278]? = some (.cells #[.bool t272, .int .i64 t273, .int .i64 t274] 24 (0, 0))) ∧ (w'.heap[gb279]? = some (.cells #[.bool t275, .int .i64 t276, .int .i64 t277] 24 (0, 0))) ∧ (w'.heap[s_.1]? = some (.cells #[.bool false, .int .i64 0, .int .i64 0] 24 (0, 0))) ∧ (w'.heap[s_.2]? = some (.cells #[.bool false, .int .i64 0, .int .i64 0] 24 (0, 0))) ∧ (w.heap.size ≤ s_.1) ∧ (w.heap.size ≤ s_.1) ∧ (gb264 ≠ s_.1) ∧ (s_.1 ≠ gb264) ∧ (gb265 ≠ s_.1) ∧ (s_.1 ≠ gb265) ∧ (gb278 ≠ s_.1) ∧ (s_.1 ≠ gb278) ∧ (gb279 ≠ s_.1) ∧ (s_.1 ≠ gb279) ∧ (s_.2 ≠ s_.1) ∧ (s_.1 ≠ s_.2) ∧ (w.heap.size ≤ s_.2) ∧ (w.heap.size ≤ s_.2) ∧ (gb264 ≠ s_.2) ∧ (s_.2 ≠ gb264) ∧ (gb265 ≠ s_.2) ∧ (s_.2 ≠ gb265) ∧ (gb278 ≠ s_.2) ∧ (s_.2 ≠ gb278) ∧ (gb279 ≠ s_.2) ∧ (s_.2 ≠ gb279) ∧ (Below w.heap.size w w')) ?_ ?_
          rotate_left
          ·intro hJ3_10_11
           refine join_ (σ := Unit) 8 #[true, true, true, true, true, true, false, false, false, false, false, false, false, false] (fun s_ => [(27, .agg #[.bool t266, .int .i64 t267, .int .i64 t268]), (29, .agg #[.bool t269, .int .i64 t270, .int .i64 t271])]) (fun s_ w' => (w'.cell? ⟨gb264, 0, none⟩ = some (.bool a2_0) ∧ w'.cell? ⟨gb264, 1, none⟩ = some (.int .i64 a2_1) ∧ w'.cell? ⟨gb264, 2, none⟩ = some (.int .i64 a2_2) ∧ w'.cell? ⟨gb265, 0, none⟩ = some (.bool a3_0) ∧ w'.cell? ⟨gb265, 1, none⟩ = some (.int .i64 a3_1) ∧ w'.cell? ⟨gb265, 2, none⟩ = some (.int .i64 a3_2)) ∧ (w'.heap[gb264]? = some (.cells #[.bool a2_0, .int .i64 a2_1, .int .i64 a2_2] 23 (0, 0))) ∧ (w'.heap[gb265]? = some (.cells #[.bool a3_0, .int .i64 a3_1, .int .i64 a3_2] 23 (0, 0))) ∧ (w'.heap[gb278]? = some (.cells #[.bool t272, .int .i64 t273, .int .i64 t274] 24 (0, 0))) ∧ (w'.heap[gb279]? = some (.cells #[.bool t275, .int .i64 t276, .int .i64 t277] 24 (0, 0))) ∧ (Below w.heap.size w w')) ?_ ?_
           rotate_left
           ·intro hJ3_5
            refine join_ (σ := Nat) 8 #[true, true, true, true, true, false, false, false, false, false, true, false, false, false] (fun s_ => [(27, .agg #[.bool t266, .int .i64 t267, .int .i64 t268]), (11, .pointer (some ⟨s_, 0, none⟩))]) (fun s_ w' => (w'.cell? ⟨gb264, 0, none⟩ = some (.bool a2_0) ∧ w'.cell? ⟨gb264, 1, none⟩ = some (.int .i64 a2_1) ∧ w'.cell? ⟨gb264, 2, none⟩ = some (.int .i64 a2_2) ∧ w'.cell? ⟨gb265, 0, none⟩ = some (.bool a3_0) ∧ w'.cell? ⟨gb265, 1, none⟩ = some (.int .i64 a3_1) ∧ w'.cell? ⟨gb265, 2, none⟩ = some (.int .i64 a3_2)) ∧ (w'.heap[gb264]? = some (.cells #[.bool a2_0, .int .i64 a2_1, .int .i64 a2_2] 23 (0, 0))) ∧ (w'.heap[gb265]? = some (.cells #[.bool a3_0, .int .i64 a3_1, .int .i64 a3_2] 23 (0, 0))) ∧ (w'.heap[gb278]? = some (.cells #[.bool t272, .int .i64 t273, .int .i64 t274] 24 (0, 0))) ∧ (w'.heap[gb279]? = some (.cells #[.bool t275, .int .i64 t276, .int .i64 t277] 24 (0, 0))) ∧ (w'.heap[s_]? = some (.cells #[.bool false, .int .i64 0, .int .i64 0] 24 (0, 0))) ∧ (w.heap.size ≤ s_) ∧ (w.heap.size ≤ s_) ∧ (gb264 ≠ s_) ∧ (s_ ≠ gb264) ∧ (gb265 ≠ s_) ∧ (s_ ≠ gb265) ∧ (gb278 ≠ s_) ∧ (s_ ≠ gb278) ∧ (gb279 ≠ s_) ∧ (s_ ≠ gb279) ∧ (Below w.heap.size w w')) ?_ ?_
            rotate_left
            ·intro hJ3_10
             refine join_ (σ := Nat) 8 #[true, true, true, true, true, false, false, false, false, false, false, true, false, false] (fun s_ => [(27, .agg #[.bool t266, .int .i64 t267, .int .i64 t268]), (12, .pointer (some ⟨s_, 0, none⟩))]) (fun s_ w' => (w'.cell? ⟨gb264, 0, none⟩ = some (.bool a2_0) ∧ w'.cell? ⟨gb264, 1, none⟩ = some (.int .i64 a2_1) ∧ w'.cell? ⟨gb264, 2, none⟩ = some (.int .i64 a2_2) ∧ w'.cell? ⟨gb265, 0, none⟩ = some (.bool a3_0) ∧ w'.cell? ⟨gb265, 1, none⟩ = some (.int .i64 a3_1) ∧ w'.cell? ⟨gb265, 2, none⟩ = some (.int .i64 a3_2)) ∧ (w'.heap[gb264]? = some (.cells #[.bool a2_0, .int .i64 a2_1, .int .i64 a2_2] 23 (0, 0))) ∧ (w'.heap[gb265]? = some (.cells #[.bool a3_0, .int .i64 a3_1, .int .i64 a3_2] 23 (0, 0))) ∧ (w'.heap[gb278]? = some (.cells #[.bool t272, .int .i64 t273, .int .i64 t274] 24 (0, 0))) ∧ (w'.heap[gb279]? = some (.cells #[.bool t275, .int .i64 t276, .int .i64 t277] 24 (0, 0))) ∧ (w'.heap[s_]? = some (.cells #[.bool false, .int .i64 0, .int .i64 0] 24 (0, 0))) ∧ (w.heap.size ≤ s_) ∧ (w.heap.size ≤ s_) ∧ (gb264 ≠ s_) ∧ (s_ ≠ gb264) ∧ (gb265 ≠ s_) ∧ (s_ ≠ gb265) ∧ (gb278 ≠ s_) ∧ (s_ ≠ gb278) ∧ (gb279 ≠ s_) ∧ (s_ ≠ gb279) ∧ (Below w.heap.size w w')) ?_ ?_
             rotate_left
             ·intro hJ3_11
              refine join_ (σ := Nat × Nat) 8 #[true, true, true, false, true, false, false, false, false, false, true, true, false, false] (fun s_ => [(11, .pointer (some ⟨s_.1, 0, none⟩)), (12, .pointer (some ⟨s_.2, 0, none⟩))]) (fun s_ w' => (w'.cell? ⟨gb264, 0, none⟩ = some (.bool a2_0) ∧ w'.cell? ⟨gb264, 1, none⟩ = some (.int .i64 a2_1) ∧ w'.cell? ⟨gb264, 2, none⟩ = some (.int .i64 a2_2) ∧ w'.cell? ⟨gb265, 0, none⟩ = some (.bool a3_0) ∧ w'.cell? ⟨gb265, 1, none⟩ = some (.int .i64 a3_1) ∧ w'.cell? ⟨gb265, 2, none⟩ = some (.int .i64 a3_2)) ∧ (w'.heap[gb264]? = some (.cells #[.bool a2_0, .int .i64 a2_1, .int .i64 a2_2] 23 (0, 0))) ∧ (w'.heap[gb265]? = some (.cells #[.bool a3_0, .int .i64 a3_1, .int .i64 a3_2] 23 (0, 0))) ∧ (w'.heap[gb278]? = some (.cells #[.bool t272, .int .i64 t273, .int .i64 t274] 24 (0, 0))) ∧ (w'.heap[gb279]? = some (.cells #[.bool t275, .int .i64 t276, .int .i64 t277] 24 (0, 0))) ∧ (w'.heap[s_.1]? = some (.cells #[.bool false, .int .i64 0, .int .i64 0] 24 (0, 0))) ∧ (w'.heap[s_.2]? = some (.cells #[.bool false, .int .i64 0, .int .i64 0] 24 (0, 0))) ∧ (w.heap.size ≤ s_.1) ∧ (w.heap.size ≤ s_.1) ∧ (gb264 ≠ s_.1) ∧ (s_.1 ≠ gb264) ∧ (gb265 ≠ s_.1) ∧ (s_.1 ≠ gb265) ∧ (gb278 ≠ s_.1) ∧ (s_.1 ≠ gb278) ∧ (gb279 ≠ s_.1) ∧ (s_.1 ≠ gb279) ∧ (s_.2 ≠ s_.1) ∧ (s_.1 ≠ s_.2) ∧ (w.heap.size ≤ s_.2) ∧ (w.heap.size ≤ s_.2) ∧ (gb264 ≠ s_.2) ∧ (s_.2 ≠ gb264) ∧ (gb265 ≠ s_.2) ∧ (s_.2 ≠ gb265) ∧ (gb278 ≠ s_.2) ∧ (s_.2 ≠ gb278) ∧ (gb279 ≠ s_.2) ∧ (s_.2 ≠ gb279) ∧ (Below w.heap.size w w')) ?_ ?_
              rotate_left
              ·intro hJ10_11
               refine join_ (σ := Unit) 9 #[true, true, true, true, true, false, false, false, false, false, false, false, false, false] (fun s_ => [(27, .agg #[.bool t266, .int .i64 t267, .int .i64 t268])]) (fun s_ w' => (w'.cell? ⟨gb264, 0, none⟩ = some (.bool a2_0) ∧ w'.cell? ⟨gb264, 1, none⟩ = some (.int .i64 a2_1) ∧ w'.cell? ⟨gb264, 2, none⟩ = some (.int .i64 a2_2) ∧ w'.cell? ⟨gb265, 0, none⟩ = some (.bool a3_0) ∧ w'.cell? ⟨gb265, 1, none⟩ = some (.int .i64 a3_1) ∧ w'.cell? ⟨gb265, 2, none⟩ = some (.int .i64 a3_2)) ∧ (w'.heap[gb264]? = some (.cells #[.bool a2_0, .int .i64 a2_1, .int .i64 a2_2] 23 (0, 0))) ∧ (w'.heap[gb265]? = some (.cells #[.bool a3_0, .int .i64 a3_1, .int .i64 a3_2] 23 (0, 0))) ∧ (w'.heap[gb278]? = some (.cells #[.bool t272, .int .i64 t273, .int .i64 t274] 24 (0, 0))) ∧ (w'.heap[gb279]? = some (.cells #[.bool t275, .int .i64 t276, .int .i64 t277] 24 (0, 0))) ∧ (Below w.heap.size w w')) ?_ ?_
               rotate_left
               ·intro hJ3
                refine join_ (σ := Nat) 9 #[true, true, true, false, true, false, false, false, false, false, true, false, false, false] (fun s_ => [(11, .pointer (some ⟨s_, 0, none⟩))]) (fun s_ w' => (w'.cell? ⟨gb264, 0, none⟩ = some (.bool a2_0) ∧ w'.cell? ⟨gb264, 1, none⟩ = some (.int .i64 a2_1) ∧ w'.cell? ⟨gb264, 2, none⟩ = some (.int .i64 a2_2) ∧ w'.cell? ⟨gb265, 0, none⟩ = some (.bool a3_0) ∧ w'.cell? ⟨gb265, 1, none⟩ = some (.int .i64 a3_1) ∧ w'.cell? ⟨gb265, 2, none⟩ = some (.int .i64 a3_2)) ∧ (w'.heap[gb264]? = some (.cells #[.bool a2_0, .int .i64 a2_1, .int .i64 a2_2] 23 (0, 0))) ∧ (w'.heap[gb265]? = some (.cells #[.bool a3_0, .int .i64 a3_1, .int .i64 a3_2] 23 (0, 0))) ∧ (w'.heap[gb278]? = some (.cells #[.bool t272, .int .i64 t273, .int .i64 t274] 24 (0, 0))) ∧ (w'.heap[gb279]? = some (.cells #[.bool t275, .int .i64 t276, .int .i64 t277] 24 (0, 0))) ∧ (w'.heap[s_]? = some (.cells #[.bool false, .int .i64 0, .int .i64 0] 24 (0, 0))) ∧ (w.heap.size ≤ s_) ∧ (w.heap.size ≤ s_) ∧ (gb264 ≠ s_) ∧ (s_ ≠ gb264) ∧ (gb265 ≠ s_) ∧ (s_ ≠ gb265) ∧ (gb278 ≠ s_) ∧ (s_ ≠ gb278) ∧ (gb279 ≠ s_) ∧ (s_ ≠ gb279) ∧ (Below w.heap.size w w')) ?_ ?_
                rotate_left
                ·intro hJ10
                 refine join_ (σ := Nat) 9 #[true, true, true, false, true, false, false, false, false, false, false, true, false, false] (fun s_ => [(12, .pointer (some ⟨s_, 0, none⟩))]) (fun s_ w' => (w'.cell? ⟨gb264, 0, none⟩ = some (.bool a2_0) ∧ w'.cell? ⟨gb264, 1, none⟩ = some (.int .i64 a2_1) ∧ w'.cell? ⟨gb264, 2, none⟩ = some (.int .i64 a2_2) ∧ w'.cell? ⟨gb265, 0, none⟩ = some (.bool a3_0) ∧ w'.cell? ⟨gb265, 1, none⟩ = some (.int .i64 a3_1) ∧ w'.cell? ⟨gb265, 2, none⟩ = some (.int .i64 a3_2)) ∧ (w'.heap[gb264]? = some (.cells #[.bool a2_0, .int .i64 a2_1, .int .i64 a2_2] 23 (0, 0))) ∧ (w'.heap[gb265]? = some (.cells #[.bool a3_0, .int .i64 a3_1, .int .i64 a3_2] 23 (0, 0))) ∧ (w'.heap[gb278]? = some (.cells #[.bool t272, .int .i64 t273, .int .i64 t274] 24 (0, 0))) ∧ (w'.heap[gb279]? = some (.cells #[.bool t275, .int .i64 t276, .int .i64 t277] 24 (0, 0))) ∧ (w'.heap[s_]? = some (.cells #[.bool false, .int .i64 0, .int .i64 0] 24 (0, 0))) ∧ (w.heap.size ≤ s_) ∧ (w.heap.size ≤ s_) ∧ (gb264 ≠ s_) ∧ (s_ ≠ gb264) ∧ (gb265 ≠ s_) ∧ (s_ ≠ gb265) ∧ (gb278 ≠ s_) ∧ (s_ ≠ gb278) ∧ (gb279 ≠ s_) ∧ (s_ ≠ gb279) ∧ (Below w.heap.size w w')) ?_ ?_
                 rotate_left
                 ·intro hJ11
                  refine three_ (i := 3) (j := 10) (k := 11) (Ni := some 27) (Nj := some 11) (Nk := some 12) #[true, true, true, true, true, false, false, false, false, false, false, false, false, false] #[true, true, true, false, true, false, false, false, false, false, true, false, false, false] #[true, true, true, false, true, false, false, false, false, false, false, true, false, false] rfl rfl rfl rfl rfl rfl (three_of HT_.out (by kernel_rfl)) (by decide) (by decide) (by decide) (fun K hK => ?_) (fun K hK => ?_) (fun K hK => ?_)
                  ·skip
                   refine goes_ Try.func10 (by kernel_rfl) rfl #[.agg #[.bool a2_0, .int .i64 a2_1, .int .i64 a2_2]] (by rfl) rfl rfl (by (try simp only [List.map_toArray, List.map_cons, List.map_nil]); first | done | rfl) ?_
                   with_reducible refine (laws_toSpan.calls a2_0 a2_1 a2_2 t266 t267 t268 _ A8.out).mono ?_
                   rintro e w32 ⟨rfl, hb⟩
                   refine ⟨_, rfl, ?_⟩
                   have n0_ := A_ (blk_below (bz_ BK264.out) hb)
                   have n1_ := A_ (blk_below (bz_ BK265.out) hb)
                   have n2_ := A_ (blk_below (bz_ BK278.out) hb)
                   have n3_ := A_ (blk_below (bz_ BK279.out) hb)
                   have n4_ := A_ (below_step (by repeat (first | (with_reducible first | exact HB.out | apply b1_ | apply b2_ | apply b3_ | apply c_ GE264 | apply c_ GE265 | apply c_ GE278 | apply c_ GE279) | exact HB.out)) hb)
                   clear BK264 BK265
                   clear BK278 BK279 HB
                   have BK264 := n0_
                   have BK265 := n1_
                   have BK278 := n2_
                   have BK279 := n3_
                   have HB := n4_
                   clear n0_ n1_ n2_ n3_ n4_
                   (try clear hb)
                   (try clear hb2)
                   (try clear hk)
                   (try clear hi)
                   refine hK.out _ _ ⟨bc_ BK264.out 0, bc_ BK264.out 1, bc_ BK264.out 2, bc_ BK265.out 0, bc_ BK265.out 1, bc_ BK265.out 2⟩ (fun hHeld => ?_)
                   clear hK K
                   refine norm_ (a' := ?_) ?_ ?_
                   rotate_left
                   ·show Act.put _ (some 27) _ = _
                    simp only [Act.put, x1_, x2_, x3_, i64_w, i32_w]
                    rfl
                   exact norm_ (by simp only [putAll, Act.put, x1_, x2_, x3_] <;> rfl) (hJ3 () _ ⟨hHeld, (bz_ BK264.out), (bz_ BK265.out), (bz_ BK278.out), (bz_ BK279.out), (by repeat (first | (with_reducible first | exact HB.out | apply b1_ | apply b2_ | apply b3_ | apply c_ GE264 | apply c_ GE265 | apply c_ GE278 | apply c_ GE279) | exact HB.out))⟩)
                  ·skip
                   refine box_step ?hg (N := 11) ?hd (cs := #[.bool false, .int .i64 0, .int .i64 0]) (t := 24) ?hr ?_; (case hd => rfl); (case hg => rfl); (case hr => first | (go_simp; done) | (go_simp; rfl))
                   intro gb292 hg w32 hbox hb
                   have n0_ := A_ (blk_below (bz_ BK264.out) hb)
                   have n1_ := A_ (blk_below (bz_ BK265.out) hb)
                   have n2_ := A_ (blk_below (bz_ BK278.out) hb)
                   have n3_ := A_ (blk_below (bz_ BK279.out) hb)
                   have n4_ := A_ (below_step (by repeat (first | (with_reducible first | exact HB.out | apply b1_ | apply b2_ | apply b3_ | apply c_ GE264 | apply c_ GE265 | apply c_ GE278 | apply c_ GE279) | exact HB.out)) hb)
                   have n5_ := A_ (hbox)
                   have n6_ := A_ (ge_ hg)
                   have GE292 := n6_
                   have NB264_292 := A_ (nl_ hg (bz_ BK264.out))
                   have NB292_264 := A_ (ng_ hg (bz_ BK264.out))
                   have NB265_292 := A_ (nl_ hg (bz_ BK265.out))
                   have NB292_265 := A_ (ng_ hg (bz_ BK265.out))
                   have NB278_292 := A_ (nl_ hg (bz_ BK278.out))
                   have NB292_278 := A_ (ng_ hg (bz_ BK278.out))
                   have NB279_292 := A_ (nl_ hg (bz_ BK279.out))
                   have NB292_279 := A_ (ng_ hg (bz_ BK279.out))
                   clear BK264 BK265
                   clear BK278 BK279 HB
                   have BK264 := n0_
                   have BK265 := n1_
                   have BK278 := n2_
                   have BK279 := n3_
                   have HB := n4_
                   have BK292 := n5_
                   have GW292 := n6_
                   clear n0_ n1_ n2_ n3_ n4_ n5_ n6_
                   clear hb hbox hg
                   refine hK.out _ _ ⟨bc_ BK264.out 0, bc_ BK264.out 1, bc_ BK264.out 2, bc_ BK265.out 0, bc_ BK265.out 1, bc_ BK265.out 2⟩ (fun hHeld => ?_)
                   clear hK K
                   refine norm_ (a' := ?_) ?_ ?_
                   rotate_left
                   ·show Act.put _ (some 11) _ = _
                    simp only [Act.put, x1_, x2_, x3_, i64_w, i32_w]
                    rfl
                   exact norm_ (by simp only [putAll, Act.put, x1_, x2_, x3_] <;> rfl) (hJ10 (gb292) _ ⟨hHeld, (bz_ BK264.out), (bz_ BK265.out), (bz_ BK278.out), (bz_ BK279.out), (bz_ BK292.out), GW292.out, GE292.out, NB264_292.out, NB292_264.out, NB265_292.out, NB292_265.out, NB278_292.out, NB292_278.out, NB279_292.out, NB292_279.out, (by repeat (first | (with_reducible first | exact HB.out | apply b1_ | apply b2_ | apply b3_ | apply c_ GE264 | apply c_ GE265 | apply c_ GE278 | apply c_ GE279 | apply c_ GE292) | exact HB.out))⟩)
                  ·skip
                   refine box_step ?hg (N := 12) ?hd (cs := #[.bool false, .int .i64 0, .int .i64 0]) (t := 24) ?hr ?_; (case hd => rfl); (case hg => rfl); (case hr => first | (go_simp; done) | (go_simp; rfl))
                   intro gb293 hg w32 hbox hb
                   have n0_ := A_ (blk_below (bz_ BK264.out) hb)
                   have n1_ := A_ (blk_below (bz_ BK265.out) hb)
                   have n2_ := A_ (blk_below (bz_ BK278.out) hb)
                   have n3_ := A_ (blk_below (bz_ BK279.out) hb)
                   have n4_ := A_ (below_step (by repeat (first | (with_reducible first | exact HB.out | apply b1_ | apply b2_ | apply b3_ | apply c_ GE264 | apply c_ GE265 | apply c_ GE278 | apply c_ GE279) | exact HB.out)) hb)
                   have n5_ := A_ (hbox)
                   have n6_ := A_ (ge_ hg)
                   have GE293 := n6_
                   have NB264_293 := A_ (nl_ hg (bz_ BK264.out))
                   have NB293_264 := A_ (ng_ hg (bz_ BK264.out))
                   have NB265_293 := A_ (nl_ hg (bz_ BK265.out))
                   have NB293_265 := A_ (ng_ hg (bz_ BK265.out))
                   have NB278_293 := A_ (nl_ hg (bz_ BK278.out))
                   have NB293_278 := A_ (ng_ hg (bz_ BK278.out))
                   have NB279_293 := A_ (nl_ hg (bz_ BK279.out))
                   have NB293_279 := A_ (ng_ hg (bz_ BK279.out))
                   clear BK264 BK265
                   clear BK278 BK279 HB
                   have BK264 := n0_
                   have BK265 := n1_
                   have BK278 := n2_
                   have BK279 := n3_
                   have HB := n4_
                   have BK293 := n5_
                   have GW293 := n6_
                   clear n0_ n1_ n2_ n3_ n4_ n5_ n6_
                   clear hb hbox hg
                   refine hK.out _ _ ⟨bc_ BK264.out 0, bc_ BK264.out 1, bc_ BK264.out 2, bc_ BK265.out 0, bc_ BK265.out 1, bc_ BK265.out 2⟩ (fun hHeld => ?_)
                   clear hK K
                   refine norm_ (a' := ?_) ?_ ?_
                   rotate_left
                   ·show Act.put _ (some 12) _ = _
                    simp only [Act.put, x1_, x2_, x3_, i64_w, i32_w]
                    rfl
                   exact norm_ (by simp only [putAll, Act.put, x1_, x2_, x3_] <;> rfl) (hJ11 (gb293) _ ⟨hHeld, (bz_ BK264.out), (bz_ BK265.out), (bz_ BK278.out), (bz_ BK279.out), (bz_ BK293.out), GW293.out, GE293.out, NB264_293.out, NB293_264.out, NB265_293.out, NB293_265.out, NB278_293.out, NB293_278.out, NB279_293.out, NB293_279.out, (by repeat (first | (with_reducible first | exact HB.out | apply b1_ | apply b2_ | apply b3_ | apply c_ GE264 | apply c_ GE265 | apply c_ GE278 | apply c_ GE279 | apply c_ GE293) | exact HB.out))⟩)
                 ·skip
                  rintro gb293 w33 ⟨hS_, h0_, h1_, h2_, h3_, h4_, h5_, h6_, h7_, h8_, h9_, h10_, h11_, h12_, h13_, h14_, h15_⟩
                  have n0_ : Aside0 (w33.heap[gb264]? = some (.cells #[.bool a2_0, .int .i64 a2_1, .int .i64 a2_2] 23 (0, 0))) := ⟨h0_⟩
                  have n1_ : Aside0 (w33.heap[gb265]? = some (.cells #[.bool a3_0, .int .i64 a3_1, .int .i64 a3_2] 23 (0, 0))) := ⟨h1_⟩
                  have n2_ : Aside0 (w33.heap[gb278]? = some (.cells #[.bool t272, .int .i64 t273, .int .i64 t274] 24 (0, 0))) := ⟨h2_⟩
                  have n3_ : Aside0 (w33.heap[gb279]? = some (.cells #[.bool t275, .int .i64 t276, .int .i64 t277] 24 (0, 0))) := ⟨h3_⟩
                  have n4_ : Aside0 (w33.heap[gb293]? = some (.cells #[.bool false, .int .i64 0, .int .i64 0] 24 (0, 0))) := ⟨h4_⟩
                  have GW293 : Aside0 (w.heap.size ≤ gb293) := ⟨h5_⟩
                  have GE293 : Aside0 (w.heap.size ≤ gb293) := ⟨h6_⟩
                  have NB264_293 := A_ h7_
                  have NB293_264 := A_ h8_
                  have NB265_293 := A_ h9_
                  have NB293_265 := A_ h10_
                  have NB278_293 := A_ h11_
                  have NB293_278 := A_ h12_
                  have NB279_293 := A_ h13_
                  have NB293_279 := A_ h14_
                  have n15_ : Aside0 (Below w.heap.size w w33) := ⟨h15_⟩
                  clear BK264 BK265
                  clear BK278 BK279 HB
                  clear h0_ h1_ h2_ h3_ h4_ h5_ h6_ h7_ h8_ h9_ h10_ h11_ h12_ h13_ h14_ h15_
                  have BK264 := n0_
                  have BK265 := n1_
                  have BK278 := n2_
                  have BK279 := n3_
                  have BK293 := n4_
                  have HB := n15_
                  clear n0_ n1_ n2_ n3_ n4_ n15_
                  have hHeld : w33.cell? ⟨gb264, 0, none⟩ = some (.bool a2_0) ∧ w33.cell? ⟨gb264, 1, none⟩ = some (.int .i64 a2_1) ∧ w33.cell? ⟨gb264, 2, none⟩ = some (.int .i64 a2_2) ∧ w33.cell? ⟨gb265, 0, none⟩ = some (.bool a3_0) ∧ w33.cell? ⟨gb265, 1, none⟩ = some (.int .i64 a3_1) ∧ w33.cell? ⟨gb265, 2, none⟩ = some (.int .i64 a3_2) := hS_
                  refine norm_ (a' := ?_) ?_ ?_
                  rotate_left
                  ·simp only [putAll, Act.put, List.setIfInBounds_toArray, List.set_cons_zero, List.set_cons_succ]
                   rfl
                  refine two_ (i := 3) (j := 10) (Ni := some 27) (Nj := some 11) #[true, true, true, true, true, false, false, false, false, false, false, true, false, false] #[true, true, true, false, true, false, false, false, false, false, true, true, false, false] rfl rfl rfl rfl (two_of HT_.out (by kernel_rfl)) (by decide) (by decide) (fun K hK => ?_) (fun K hK => ?_)
                  ·skip
                   refine goes_ Try.func10 (by kernel_rfl) rfl #[.agg #[.bool a2_0, .int .i64 a2_1, .int .i64 a2_2]] (by rfl) rfl rfl (by (try simp only [List.map_toArray, List.map_cons, List.map_nil]); first | done | rfl) ?_
                   with_reducible refine (laws_toSpan.calls a2_0 a2_1 a2_2 t266 t267 t268 _ A8.out).mono ?_
                   rintro e w34 ⟨rfl, hb⟩
                   refine ⟨_, rfl, ?_⟩
                   have n0_ := A_ (blk_below (bz_ BK264.out) hb)
                   have n1_ := A_ (blk_below (bz_ BK265.out) hb)
                   have n2_ := A_ (blk_below (bz_ BK278.out) hb)
                   have n3_ := A_ (blk_below (bz_ BK279.out) hb)
                   have n4_ := A_ (blk_below (bz_ BK293.out) hb)
                   have n5_ := A_ (below_step (by repeat (first | (with_reducible first | exact HB.out | apply b1_ | apply b2_ | apply b3_ | apply c_ GE264 | apply c_ GE265 | apply c_ GE278 | apply c_ GE279 | apply c_ GE293) | exact HB.out)) hb)
                   clear BK264 BK265
                   clear BK278 BK279
                   clear BK293 HB
                   have BK264 := n0_
                   have BK265 := n1_
                   have BK278 := n2_
                   have BK279 := n3_
                   have BK293 := n4_
                   have HB := n5_
                   clear n0_ n1_ n2_ n3_ n4_ n5_
                   (try clear hb)
                   (try clear hb2)
                   (try clear hk)
                   (try clear hi)
                   refine hK.out _ _ ⟨bc_ BK264.out 0, bc_ BK264.out 1, bc_ BK264.out 2, bc_ BK265.out 0, bc_ BK265.out 1, bc_ BK265.out 2⟩ (fun hHeld => ?_)
                   clear hK K
                   refine norm_ (a' := ?_) ?_ ?_
                   rotate_left
                   ·show Act.put _ (some 27) _ = _
                    simp only [Act.put, x1_, x2_, x3_, i64_w, i32_w]
                    rfl
                   exact norm_ (by simp only [putAll, Act.put, x1_, x2_, x3_] <;> rfl) (hJ3_11 (gb293) _ ⟨hHeld, (bz_ BK264.out), (bz_ BK265.out), (bz_ BK278.out), (bz_ BK279.out), (bz_ BK293.out), GW293.out, GE293.out, NB264_293.out, NB293_264.out, NB265_293.out, NB293_265.out, NB278_293.out, NB293_278.out, NB279_293.out, NB293_279.out, (by repeat (first | (with_reducible first | exact HB.out | apply b1_ | apply b2_ | apply b3_ | apply c_ GE264 | apply c_ GE265 | apply c_ GE278 | apply c_ GE279 | apply c_ GE293) | exact HB.out))⟩)
                  ·skip
                   refine box_step ?hg (N := 11) ?hd (cs := #[.bool false, .int .i64 0, .int .i64 0]) (t := 24) ?hr ?_; (case hd => rfl); (case hg => rfl); (case hr => first | (go_simp; done) | (go_simp; rfl))
                   intro gb292 hg w34 hbox hb
                   have n0_ := A_ (blk_below (bz_ BK264.out) hb)
                   have n1_ := A_ (blk_below (bz_ BK265.out) hb)
                   have n2_ := A_ (blk_below (bz_ BK278.out) hb)
                   have n3_ := A_ (blk_below (bz_ BK279.out) hb)
                   have n4_ := A_ (blk_below (bz_ BK293.out) hb)
                   have n5_ := A_ (below_step (by repeat (first | (with_reducible first | exact HB.out | apply b1_ | apply b2_ | apply b3_ | apply c_ GE264 | apply c_ GE265 | apply c_ GE278 | apply c_ GE279 | apply c_ GE293) | exact HB.out)) hb)
                   have n6_ := A_ (hbox)
                   have n7_ := A_ (ge_ hg)
                   have GE292 := n7_
                   have NB264_292 := A_ (nl_ hg (bz_ BK264.out))
                   have NB292_264 := A_ (ng_ hg (bz_ BK264.out))
                   have NB265_292 := A_ (nl_ hg (bz_ BK265.out))
                   have NB292_265 := A_ (ng_ hg (bz_ BK265.out))
                   have NB278_292 := A_ (nl_ hg (bz_ BK278.out))
                   have NB292_278 := A_ (ng_ hg (bz_ BK278.out))
                   have NB279_292 := A_ (nl_ hg (bz_ BK279.out))
                   have NB292_279 := A_ (ng_ hg (bz_ BK279.out))
                   have NB293_292 := A_ (nl_ hg (bz_ BK293.out))
                   have NB292_293 := A_ (ng_ hg (bz_ BK293.out))
                   clear BK264 BK265
                   clear BK278 BK279
                   clear BK293 HB
                   have BK264 := n0_
                   have BK265 := n1_
                   have BK278 := n2_
                   have BK279 := n3_
                   have BK293 := n4_
                   have HB := n5_
                   have BK292 := n6_
                   have GW292 := n7_
                   clear n0_ n1_ n2_ n3_ n4_ n5_ n6_ n7_
                   clear hb hbox hg
                   refine hK.out _ _ ⟨bc_ BK264.out 0, bc_ BK264.out 1, bc_ BK264.out 2, bc_ BK265.out 0, bc_ BK265.out 1, bc_ BK265.out 2⟩ (fun hHeld => ?_)
                   clear hK K
                   refine norm_ (a' := ?_) ?_ ?_
                   rotate_left
                   ·show Act.put _ (some 11) _ = _
                    simp only [Act.put, x1_, x2_, x3_, i64_w, i32_w]
                    rfl
                   exact norm_ (by simp only [putAll, Act.put, x1_, x2_, x3_] <;> rfl) (hJ10_11 (gb292, gb293) _ ⟨hHeld, (bz_ BK264.out), (bz_ BK265.out), (bz_ BK278.out), (bz_ BK279.out), (bz_ BK292.out), (bz_ BK293.out), GW292.out, GE292.out, NB264_292.out, NB292_264.out, NB265_292.out, NB292_265.out, NB278_292.out, NB292_278.out, NB279_292.out, NB292_279.out, NB293_292.out, NB292_293.out, GW293.out, GE293.out, NB264_293.out, NB293_264.out, NB265_293.out, NB293_265.out, NB278_293.out, NB293_278.out, NB279_293.out, NB293_279.out, (by repeat (first | (with_reducible first | exact HB.out | apply b1_ | apply b2_ | apply b3_ | apply c_ GE264 | apply c_ GE265 | apply c_ GE278 | apply c_ GE279 | apply c_ GE293 | apply c_ GE292) | exact HB.out))⟩)
                ·skip
                 rintro gb292 w33 ⟨hS_, h0_, h1_, h2_, h3_, h4_, h5_, h6_, h7_, h8_, h9_, h10_, h11_, h12_, h13_, h14_, h15_⟩
                 have n0_ : Aside0 (w33.heap[gb264]? = some (.cells #[.bool a2_0, .int .i64 a2_1, .int .i64 a2_2] 23 (0, 0))) := ⟨h0_⟩
                 have n1_ : Aside0 (w33.heap[gb265]? = some (.cells #[.bool a3_0, .int .i64 a3_1, .int .i64 a3_2] 23 (0, 0))) := ⟨h1_⟩
                 have n2_ : Aside0 (w33.heap[gb278]? = some (.cells #[.bool t272, .int .i64 t273, .int .i64 t274] 24 (0, 0))) := ⟨h2_⟩
                 have n3_ : Aside0 (w33.heap[gb279]? = some (.cells #[.bool t275, .int .i64 t276, .int .i64 t277] 24 (0, 0))) := ⟨h3_⟩
                 have n4_ : Aside0 (w33.heap[gb292]? = some (.cells #[.bool false, .int .i64 0, .int .i64 0] 24 (0, 0))) := ⟨h4_⟩
                 have GW292 : Aside0 (w.heap.size ≤ gb292) := ⟨h5_⟩
                 have GE292 : Aside0 (w.heap.size ≤ gb292) := ⟨h6_⟩
                 have NB264_292 := A_ h7_
                 have NB292_264 := A_ h8_
                 have NB265_292 := A_ h9_
                 have NB292_265 := A_ h10_
                 have NB278_292 := A_ h11_
                 have NB292_278 := A_ h12_
                 have NB279_292 := A_ h13_
                 have NB292_279 := A_ h14_
                 have n15_ : Aside0 (Below w.heap.size w w33) := ⟨h15_⟩
                 clear BK264 BK265
                 clear BK278 BK279 HB
                 clear h0_ h1_ h2_ h3_ h4_ h5_ h6_ h7_ h8_ h9_ h10_ h11_ h12_ h13_ h14_ h15_
                 have BK264 := n0_
                 have BK265 := n1_
                 have BK278 := n2_
                 have BK279 := n3_
                 have BK292 := n4_
                 have HB := n15_
                 clear n0_ n1_ n2_ n3_ n4_ n15_
                 have hHeld : w33.cell? ⟨gb264, 0, none⟩ = some (.bool a2_0) ∧ w33.cell? ⟨gb264, 1, none⟩ = some (.int .i64 a2_1) ∧ w33.cell? ⟨gb264, 2, none⟩ = some (.int .i64 a2_2) ∧ w33.cell? ⟨gb265, 0, none⟩ = some (.bool a3_0) ∧ w33.cell? ⟨gb265, 1, none⟩ = some (.int .i64 a3_1) ∧ w33.cell? ⟨gb265, 2, none⟩ = some (.int .i64 a3_2) := hS_
                 refine norm_ (a' := ?_) ?_ ?_
                 rotate_left
                 ·simp only [putAll, Act.put, List.setIfInBounds_toArray, List.set_cons_zero, List.set_cons_succ]
                  rfl
                 refine two_ (i := 3) (j := 11) (Ni := some 27) (Nj := some 12) #[true, true, true, true, true, false, false, false, false, false, true, false, false, false] #[true, true, true, false, true, false, false, false, false, false, true, true, false, false] rfl rfl rfl rfl (two_of HT_.out (by kernel_rfl)) (by decide) (by decide) (fun K hK => ?_) (fun K hK => ?_)
                 ·skip
                  refine goes_ Try.func10 (by kernel_rfl) rfl #[.agg #[.bool a2_0, .int .i64 a2_1, .int .i64 a2_2]] (by rfl) rfl rfl (by (try simp only [List.map_toArray, List.map_cons, List.map_nil]); first | done | rfl) ?_
                  with_reducible refine (laws_toSpan.calls a2_0 a2_1 a2_2 t266 t267 t268 _ A8.out).mono ?_
                  rintro e w34 ⟨rfl, hb⟩
                  refine ⟨_, rfl, ?_⟩
                  have n0_ := A_ (blk_below (bz_ BK264.out) hb)
                  have n1_ := A_ (blk_below (bz_ BK265.out) hb)
                  have n2_ := A_ (blk_below (bz_ BK278.out) hb)
                  have n3_ := A_ (blk_below (bz_ BK279.out) hb)
                  have n4_ := A_ (blk_below (bz_ BK292.out) hb)
                  have n5_ := A_ (below_step (by repeat (first | (with_reducible first | exact HB.out | apply b1_ | apply b2_ | apply b3_ | apply c_ GE264 | apply c_ GE265 | apply c_ GE278 | apply c_ GE279 | apply c_ GE292) | exact HB.out)) hb)
                  clear BK264 BK265
                  clear BK278 BK279
                  clear BK292 HB
                  have BK264 := n0_
                  have BK265 := n1_
                  have BK278 := n2_
                  have BK279 := n3_
                  have BK292 := n4_
                  have HB := n5_
                  clear n0_ n1_ n2_ n3_ n4_ n5_
                  (try clear hb)
                  (try clear hb2)
                  (try clear hk)
                  (try clear hi)
                  refine hK.out _ _ ⟨bc_ BK264.out 0, bc_ BK264.out 1, bc_ BK264.out 2, bc_ BK265.out 0, bc_ BK265.out 1, bc_ BK265.out 2⟩ (fun hHeld => ?_)
                  clear hK K
                  refine norm_ (a' := ?_) ?_ ?_
                  rotate_left
                  ·show Act.put _ (some 27) _ = _
                   simp only [Act.put, x1_, x2_, x3_, i64_w, i32_w]
                   rfl
                  exact norm_ (by simp only [putAll, Act.put, x1_, x2_, x3_] <;> rfl) (hJ3_10 (gb292) _ ⟨hHeld, (bz_ BK264.out), (bz_ BK265.out), (bz_ BK278.out), (bz_ BK279.out), (bz_ BK292.out), GW292.out, GE292.out, NB264_292.out, NB292_264.out, NB265_292.out, NB292_265.out, NB278_292.out, NB292_278.out, NB279_292.out, NB292_279.out, (by repeat (first | (with_reducible first | exact HB.out | apply b1_ | apply b2_ | apply b3_ | apply c_ GE264 | apply c_ GE265 | apply c_ GE278 | apply c_ GE279 | apply c_ GE292) | exact HB.out))⟩)
                 ·skip
                  refine box_step ?hg (N := 12) ?hd (cs := #[.bool false, .int .i64 0, .int .i64 0]) (t := 24) ?hr ?_; (case hd => rfl); (case hg => rfl); (case hr => first | (go_simp; done) | (go_simp; rfl))
                  intro gb293 hg w34 hbox hb
                  have n0_ := A_ (blk_below (bz_ BK264.out) hb)
                  have n1_ := A_ (blk_below (bz_ BK265.out) hb)
                  have n2_ := A_ (blk_below (bz_ BK278.out) hb)
                  have n3_ := A_ (blk_below (bz_ BK279.out) hb)
                  have n4_ := A_ (blk_below (bz_ BK292.out) hb)
                  have n5_ := A_ (below_step (by repeat (first | (with_reducible first | exact HB.out | apply b1_ | apply b2_ | apply b3_ | apply c_ GE264 | apply c_ GE265 | apply c_ GE278 | apply c_ GE279 | apply c_ GE292) | exact HB.out)) hb)
                  have n6_ := A_ (hbox)
                  have n7_ := A_ (ge_ hg)
                  have GE293 := n7_
                  have NB264_293 := A_ (nl_ hg (bz_ BK264.out))
                  have NB293_264 := A_ (ng_ hg (bz_ BK264.out))
                  have NB265_293 := A_ (nl_ hg (bz_ BK265.out))
                  have NB293_265 := A_ (ng_ hg (bz_ BK265.out))
                  have NB278_293 := A_ (nl_ hg (bz_ BK278.out))
                  have NB293_278 := A_ (ng_ hg (bz_ BK278.out))
                  have NB279_293 := A_ (nl_ hg (bz_ BK279.out))
                  have NB293_279 := A_ (ng_ hg (bz_ BK279.out))
                  have NB292_293 := A_ (nl_ hg (bz_ BK292.out))
                  have NB293_292 := A_ (ng_ hg (bz_ BK292.out))
                  clear BK264 BK265
                  clear BK278 BK279
                  clear BK292 HB
                  have BK264 := n0_
                  have BK265 := n1_
                  have BK278 := n2_
                  have BK279 := n3_
                  have BK292 := n4_
                  have HB := n5_
                  have BK293 := n6_
                  have GW293 := n7_
                  clear n0_ n1_ n2_ n3_ n4_ n5_ n6_ n7_
                  clear hb hbox hg
                  refine hK.out _ _ ⟨bc_ BK264.out 0, bc_ BK264.out 1, bc_ BK264.out 2, bc_ BK265.out 0, bc_ BK265.out 1, bc_ BK265.out 2⟩ (fun hHeld => ?_)
                  clear hK K
                  refine norm_ (a' := ?_) ?_ ?_
                  rotate_left
                  ·show Act.put _ (some 12) _ = _
                   simp only [Act.put, x1_, x2_, x3_, i64_w, i32_w]
                   rfl
                  exact norm_ (by simp only [putAll, Act.put, x1_, x2_, x3_] <;> rfl) (hJ10_11 (gb292, gb293) _ ⟨hHeld, (bz_ BK264.out), (bz_ BK265.out), (bz_ BK278.out), (bz_ BK279.out), (bz_ BK292.out), (bz_ BK293.out), GW292.out, GE292.out, NB264_292.out, NB292_264.out, NB265_292.out, NB292_265.out, NB278_292.out, NB292_278.out, NB279_292.out, NB292_279.out, NB293_292.out, NB292_293.out, GW293.out, GE293.out, NB264_293.out, NB293_264.out, NB265_293.out, NB293_265.out, NB278_293.out, NB293_278.out, NB279_293.out, NB293_279.out, (by repeat (first | (with_reducible first | exact HB.out | apply b1_ | apply b2_ | apply b3_ | apply c_ GE264 | apply c_ GE265 | apply c_ GE278 | apply c_ GE279 | apply c_ GE292 | apply c_ GE293) | exact HB.out))⟩)
               ·skip
                rintro _ w33 ⟨hS_, h0_, h1_, h2_, h3_, h4_⟩
                have n0_ : Aside0 (w33.heap[gb264]? = some (.cells #[.bool a2_0, .int .i64 a2_1, .int .i64 a2_2] 23 (0, 0))) := ⟨h0_⟩
                have n1_ : Aside0 (w33.heap[gb265]? = some (.cells #[.bool a3_0, .int .i64 a3_1, .int .i64 a3_2] 23 (0, 0))) := ⟨h1_⟩
                have n2_ : Aside0 (w33.heap[gb278]? = some (.cells #[.bool t272, .int .i64 t273, .int .i64 t274] 24 (0, 0))) := ⟨h2_⟩
                have n3_ : Aside0 (w33.heap[gb279]? = some (.cells #[.bool t275, .int .i64 t276, .int .i64 t277] 24 (0, 0))) := ⟨h3_⟩
                have n4_ : Aside0 (Below w.heap.size w w33) := ⟨h4_⟩
                clear BK264 BK265
                clear BK278 BK279 HB
                clear h0_ h1_ h2_ h3_ h4_
                have BK264 := n0_
                have BK265 := n1_
                have BK278 := n2_
                have BK279 := n3_
                have HB := n4_
                clear n0_ n1_ n2_ n3_ n4_
                have hHeld : w33.cell? ⟨gb264, 0, none⟩ = some (.bool a2_0) ∧ w33.cell? ⟨gb264, 1, none⟩ = some (.int .i64 a2_1) ∧ w33.cell? ⟨gb264, 2, none⟩ = some (.int .i64 a2_2) ∧ w33.cell? ⟨gb265, 0, none⟩ = some (.bool a3_0) ∧ w33.cell? ⟨gb265, 1, none⟩ = some (.int .i64 a3_1) ∧ w33.cell? ⟨gb265, 2, none⟩ = some (.int .i64 a3_2) := hS_
                refine norm_ (a' := ?_) ?_ ?_
                rotate_left
                ·simp only [putAll, Act.put, List.setIfInBounds_toArray, List.set_cons_zero, List.set_cons_succ]
                 rfl
                refine three_ (i := 5) (j := 10) (k := 11) (Ni := some 29) (Nj := some 11) (Nk := some 12) #[true, true, true, true, true, true, false, false, false, false, false, false, false, false] #[true, true, true, true, true, false, false, false, false, false, true, false, false, false] #[true, true, true, true, true, false, false, false, false, false, false, true, false, false] rfl rfl rfl rfl rfl rfl (three_of HT_.out (by kernel_rfl)) (by decide) (by decide) (by decide) (fun K hK => ?_) (fun K hK => ?_) (fun K hK => ?_)
                ·skip
                 refine goes_ Try.func10 (by kernel_rfl) rfl #[.agg #[.bool a3_0, .int .i64 a3_1, .int .i64 a3_2]] (by rfl) rfl rfl (by (try simp only [List.map_toArray, List.map_cons, List.map_nil]); first | done | rfl) ?_
                 with_reducible refine (laws_toSpan.calls a3_0 a3_1 a3_2 t269 t270 t271 _ A9.out).mono ?_
                 rintro e w34 ⟨rfl, hb⟩
                 refine ⟨_, rfl, ?_⟩
                 have n0_ := A_ (blk_below (bz_ BK264.out) hb)
                 have n1_ := A_ (blk_below (bz_ BK265.out) hb)
                 have n2_ := A_ (blk_below (bz_ BK278.out) hb)
                 have n3_ := A_ (blk_below (bz_ BK279.out) hb)
                 have n4_ := A_ (below_step (by repeat (first | (with_reducible first | exact HB.out | apply b1_ | apply b2_ | apply b3_ | apply c_ GE264 | apply c_ GE265 | apply c_ GE278 | apply c_ GE279) | exact HB.out)) hb)
                 clear BK264 BK265
                 clear BK278 BK279 HB
                 have BK264 := n0_
                 have BK265 := n1_
                 have BK278 := n2_
                 have BK279 := n3_
                 have HB := n4_
                 clear n0_ n1_ n2_ n3_ n4_
                 (try clear hb)
                 (try clear hb2)
                 (try clear hk)
                 (try clear hi)
                 refine hK.out _ _ ⟨bc_ BK264.out 0, bc_ BK264.out 1, bc_ BK264.out 2, bc_ BK265.out 0, bc_ BK265.out 1, bc_ BK265.out 2⟩ (fun hHeld => ?_)
                 clear hK K
                 refine norm_ (a' := ?_) ?_ ?_
                 rotate_left
                 ·show Act.put _ (some 29) _ = _
                  simp only [Act.put, x1_, x2_, x3_, i64_w, i32_w]
                  rfl
                 exact norm_ (by simp only [putAll, Act.put, x1_, x2_, x3_] <;> rfl) (hJ3_5 () _ ⟨hHeld, (bz_ BK264.out), (bz_ BK265.out), (bz_ BK278.out), (bz_ BK279.out), (by repeat (first | (with_reducible first | exact HB.out | apply b1_ | apply b2_ | apply b3_ | apply c_ GE264 | apply c_ GE265 | apply c_ GE278 | apply c_ GE279) | exact HB.out))⟩)
                ·skip
                 refine box_step ?hg (N := 11) ?hd (cs := #[.bool false, .int .i64 0, .int .i64 0]) (t := 24) ?hr ?_; (case hd => rfl); (case hg => rfl); (case hr => first | (go_simp; done) | (go_simp; rfl))
                 intro gb292 hg w34 hbox hb
                 have n0_ := A_ (blk_below (bz_ BK264.out) hb)
                 have n1_ := A_ (blk_below (bz_ BK265.out) hb)
                 have n2_ := A_ (blk_below (bz_ BK278.out) hb)
                 have n3_ := A_ (blk_below (bz_ BK279.out) hb)
                 have n4_ := A_ (below_step (by repeat (first | (with_reducible first | exact HB.out | apply b1_ | apply b2_ | apply b3_ | apply c_ GE264 | apply c_ GE265 | apply c_ GE278 | apply c_ GE279) | exact HB.out)) hb)
                 have n5_ := A_ (hbox)
                 have n6_ := A_ (ge_ hg)
                 have GE292 := n6_
                 have NB264_292 := A_ (nl_ hg (bz_ BK264.out))
                 have NB292_264 := A_ (ng_ hg (bz_ BK264.out))
                 have NB265_292 := A_ (nl_ hg (bz_ BK265.out))
                 have NB292_265 := A_ (ng_ hg (bz_ BK265.out))
                 have NB278_292 := A_ (nl_ hg (bz_ BK278.out))
                 have NB292_278 := A_ (ng_ hg (bz_ BK278.out))
                 have NB279_292 := A_ (nl_ hg (bz_ BK279.out))
                 have NB292_279 := A_ (ng_ hg (bz_ BK279.out))
                 clear BK264 BK265
                 clear BK278 BK279 HB
                 have BK264 := n0_
                 have BK265 := n1_
                 have BK278 := n2_
                 have BK279 := n3_
                 have HB := n4_
                 have BK292 := n5_
                 have GW292 := n6_
                 clear n0_ n1_ n2_ n3_ n4_ n5_ n6_
                 clear hb hbox hg
                 refine hK.out _ _ ⟨bc_ BK264.out 0, bc_ BK264.out 1, bc_ BK264.out 2, bc_ BK265.out 0, bc_ BK265.out 1, bc_ BK265.out 2⟩ (fun hHeld => ?_)
                 clear hK K
                 refine norm_ (a' := ?_) ?_ ?_
                 rotate_left
                 ·show Act.put _ (some 11) _ = _
                  simp only [Act.put, x1_, x2_, x3_, i64_w, i32_w]
                  rfl
                 exact norm_ (by simp only [putAll, Act.put, x1_, x2_, x3_] <;> rfl) (hJ3_10 (gb292) _ ⟨hHeld, (bz_ BK264.out), (bz_ BK265.out), (bz_ BK278.out), (bz_ BK279.out), (bz_ BK292.out), GW292.out, GE292.out, NB264_292.out, NB292_264.out, NB265_292.out, NB292_265.out, NB278_292.out, NB292_278.out, NB279_292.out, NB292_279.out, (by repeat (first | (with_reducible first | exact HB.out | apply b1_ | apply b2_ | apply b3_ | apply c_ GE264 | apply c_ GE265 | apply c_ GE278 | apply c_ GE279 | apply c_ GE292) | exact HB.out))⟩)
                ·skip
                 refine box_step ?hg (N := 12) ?hd (cs := #[.bool false, .int .i64 0, .int .i64 0]) (t := 24) ?hr ?_; (case hd => rfl); (case hg => rfl); (case hr => first | (go_simp; done) | (go_simp; rfl))
                 intro gb293 hg w34 hbox hb
                 have n0_ := A_ (blk_below (bz_ BK264.out) hb)
                 have n1_ := A_ (blk_below (bz_ BK265.out) hb)
                 have n2_ := A_ (blk_below (bz_ BK278.out) hb)
                 have n3_ := A_ (blk_below (bz_ BK279.out) hb)
                 have n4_ := A_ (below_step (by repeat (first | (with_reducible first | exact HB.out | apply b1_ | apply b2_ | apply b3_ | apply c_ GE264 | apply c_ GE265 | apply c_ GE278 | apply c_ GE279) | exact HB.out)) hb)
                 have n5_ := A_ (hbox)
                 have n6_ := A_ (ge_ hg)
                 have GE293 := n6_
                 have NB264_293 := A_ (nl_ hg (bz_ BK264.out))
                 have NB293_264 := A_ (ng_ hg (bz_ BK264.out))
                 have NB265_293 := A_ (nl_ hg (bz_ BK265.out))
                 have NB293_265 := A_ (ng_ hg (bz_ BK265.out))
                 have NB278_293 := A_ (nl_ hg (bz_ BK278.out))
                 have NB293_278 := A_ (ng_ hg (bz_ BK278.out))
                 have NB279_293 := A_ (nl_ hg (bz_ BK279.out))
                 have NB293_279 := A_ (ng_ hg (bz_ BK279.out))
                 clear BK264 BK265
                 clear BK278 BK279 HB
                 have BK264 := n0_
                 have BK265 := n1_
                 have BK278 := n2_
                 have BK279 := n3_
                 have HB := n4_
                 have BK293 := n5_
                 have GW293 := n6_
                 clear n0_ n1_ n2_ n3_ n4_ n5_ n6_
                 clear hb hbox hg
                 refine hK.out _ _ ⟨bc_ BK264.out 0, bc_ BK264.out 1, bc_ BK264.out 2, bc_ BK265.out 0, bc_ BK265.out 1, bc_ BK265.out 2⟩ (fun hHeld => ?_)
                 clear hK K
                 refine norm_ (a' := ?_) ?_ ?_
                 rotate_left
                 ·show Act.put _ (some 12) _ = _
                  simp only [Act.put, x1_, x2_, x3_, i64_w, i32_w]
                  rfl
                 exact norm_ (by simp only [putAll, Act.put, x1_, x2_, x3_] <;> rfl) (hJ3_11 (gb293) _ ⟨hHeld, (bz_ BK264.out), (bz_ BK265.out), (bz_ BK278.out), (bz_ BK279.out), (bz_ BK293.out), GW293.out, GE293.out, NB264_293.out, NB293_264.out, NB265_293.out, NB293_265.out, NB278_293.out, NB293_278.out, NB279_293.out, NB293_279.out, (by repeat (first | (with_reducible first | exact HB.out | apply b1_ | apply b2_ | apply b3_ | apply c_ GE264 | apply c_ GE265 | apply c_ GE278 | apply c_ GE279 | apply c_ GE293) | exact HB.out))⟩)
              ·skip
               rintro ⟨gb292, gb293⟩ w34 ⟨hS_, h0_, h1_, h2_, h3_, h4_, h5_, h6_, h7_, h8_, h9_, h10_, h11_, h12_, h13_, h14_, h15_, h16_, h17_, h18_, h19_, h20_, h21_, h22_, h23_, h24_, h25_, h26_, h27_, h28_⟩
               have n0_ : Aside0 (w34.heap[gb264]? = some (.cells #[.bool a2_0, .int .i64 a2_1, .int .i64 a2_2] 23 (0, 0))) := ⟨h0_⟩
               have n1_ : Aside0 (w34.heap[gb265]? = some (.cells #[.bool a3_0, .int .i64 a3_1, .int .i64 a3_2] 23 (0, 0))) := ⟨h1_⟩
               have n2_ : Aside0 (w34.heap[gb278]? = some (.cells #[.bool t272, .int .i64 t273, .int .i64 t274] 24 (0, 0))) := ⟨h2_⟩
               have n3_ : Aside0 (w34.heap[gb279]? = some (.cells #[.bool t275, .int .i64 t276, .int .i64 t277] 24 (0, 0))) := ⟨h3_⟩
               have n4_ : Aside0 (w34.heap[gb292]? = some (.cells #[.bool false, .int .i64 0, .int .i64 0] 24 (0, 0))) := ⟨h4_⟩
               have n5_ : Aside0 (w34.heap[gb293]? = some (.cells #[.bool false, .int .i64 0, .int .i64 0] 24 (0, 0))) := ⟨h5_⟩
               have GW292 : Aside0 (w.heap.size ≤ gb292) := ⟨h6_⟩
               have GE292 : Aside0 (w.heap.size ≤ gb292) := ⟨h7_⟩
               have NB264_292 := A_ h8_
               have NB292_264 := A_ h9_
               have NB265_292 := A_ h10_
               have NB292_265 := A_ h11_
               have NB278_292 := A_ h12_
               have NB292_278 := A_ h13_
               have NB279_292 := A_ h14_
               have NB292_279 := A_ h15_
               have NB293_292 := A_ h16_
               have NB292_293 := A_ h17_
               have GW293 : Aside0 (w.heap.size ≤ gb293) := ⟨h18_⟩
               have GE293 : Aside0 (w.heap.size ≤ gb293) := ⟨h19_⟩
               have NB264_293 := A_ h20_
               have NB293_264 := A_ h21_
               have NB265_293 := A_ h22_
               have NB293_265 := A_ h23_
               have NB278_293 := A_ h24_
               have NB293_278 := A_ h25_
               have NB279_293 := A_ h26_
               have NB293_279 := A_ h27_
               have n28_ : Aside0 (Below w.heap.size w w34) := ⟨h28_⟩
               clear BK264 BK265
               clear BK278 BK279 HB
               clear h0_ h1_ h2_ h3_ h4_ h5_ h6_ h7_ h8_ h9_ h10_ h11_ h12_ h13_ h14_ h15_ h16_ h17_ h18_ h19_ h20_ h21_ h22_ h23_ h24_ h25_ h26_ h27_ h28_
               have BK264 := n0_
               have BK265 := n1_
               have BK278 := n2_
               have BK279 := n3_
               have BK292 := n4_
               have BK293 := n5_
               have HB := n28_
               clear n0_ n1_ n2_ n3_ n4_ n5_ n28_
               have hHeld : w34.cell? ⟨gb264, 0, none⟩ = some (.bool a2_0) ∧ w34.cell? ⟨gb264, 1, none⟩ = some (.int .i64 a2_1) ∧ w34.cell? ⟨gb264, 2, none⟩ = some (.int .i64 a2_2) ∧ w34.cell? ⟨gb265, 0, none⟩ = some (.bool a3_0) ∧ w34.cell? ⟨gb265, 1, none⟩ = some (.int .i64 a3_1) ∧ w34.cell? ⟨gb265, 2, none⟩ = some (.int .i64 a3_2) := hS_
               refine norm_ (a' := ?_) ?_ ?_
               rotate_left
               ·simp only [putAll, Act.put, List.setIfInBounds_toArray, List.set_cons_zero, List.set_cons_succ]
                rfl
               refine one_ (i := 3) (N := some 27) #[true, true, true, true, true, false, false, false, false, false, true, true, false, false] rfl rfl (one_of HT_.out (by kernel_rfl)) (by decide) (fun K hK => ?_)
               refine goes_ Try.func10 (by kernel_rfl) rfl #[.agg #[.bool a2_0, .int .i64 a2_1, .int .i64 a2_2]] (by rfl) rfl rfl (by (try simp only [List.map_toArray, List.map_cons, List.map_nil]); first | done | rfl) ?_
               with_reducible refine (laws_toSpan.calls a2_0 a2_1 a2_2 t266 t267 t268 _ A8.out).mono ?_
               rintro e w35 ⟨rfl, hb⟩
               refine ⟨_, rfl, ?_⟩
               have n0_ := A_ (blk_below (bz_ BK264.out) hb)
               have n1_ := A_ (blk_below (bz_ BK265.out) hb)
               have n2_ := A_ (blk_below (bz_ BK278.out) hb)
               have n3_ := A_ (blk_below (bz_ BK279.out) hb)
               have n4_ := A_ (blk_below (bz_ BK292.out) hb)
               have n5_ := A_ (blk_below (bz_ BK293.out) hb)
               have n6_ := A_ (below_step (by repeat (first | (with_reducible first | exact HB.out | apply b1_ | apply b2_ | apply b3_ | apply c_ GE264 | apply c_ GE265 | apply c_ GE278 | apply c_ GE279 | apply c_ GE292 | apply c_ GE293) | exact HB.out)) hb)
               clear BK264 BK265
               clear BK278 BK279
               clear BK292 BK293 HB
               have BK264 := n0_
               have BK265 := n1_
               have BK278 := n2_
               have BK279 := n3_
               have BK292 := n4_
               have BK293 := n5_
               have HB := n6_
               clear n0_ n1_ n2_ n3_ n4_ n5_ n6_
               (try clear hb)
               (try clear hb2)
               (try clear hk)
               (try clear hi)
               refine hK.out _ _ ⟨bc_ BK264.out 0, bc_ BK264.out 1, bc_ BK264.out 2, bc_ BK265.out 0, bc_ BK265.out 1, bc_ BK265.out 2⟩ (fun hHeld => ?_)
               clear hK K
               refine norm_ (a' := ?_) ?_ ?_
               rotate_left
               ·show Act.put _ (some 27) _ = _
                simp only [Act.put, x1_, x2_, x3_, i64_w, i32_w]
                rfl
               exact norm_ (by simp only [putAll, Act.put, x1_, x2_, x3_] <;> rfl) (hJ3_10_11 (gb292, gb293) _ ⟨hHeld, (bz_ BK264.out), (bz_ BK265.out), (bz_ BK278.out), (bz_ BK279.out), (bz_ BK292.out), (bz_ BK293.out), GW292.out, GE292.out, NB264_292.out, NB292_264.out, NB265_292.out, NB292_265.out, NB278_292.out, NB292_278.out, NB279_292.out, NB292_279.out, NB293_292.out, NB292_293.out, GW293.out, GE293.out, NB264_293.out, NB293_264.out, NB265_293.out, NB293_265.out, NB278_293.out, NB293_278.out, NB279_293.out, NB293_279.out, (by repeat (first | (with_reducible first | exact HB.out | apply b1_ | apply b2_ | apply b3_ | apply c_ GE264 | apply c_ GE265 | apply c_ GE278 | apply c_ GE279 | apply c_ GE292 | apply c_ GE293) | exact HB.out))⟩)
             ·skip
              rintro gb293 w34 ⟨hS_, h0_, h1_, h2_, h3_, h4_, h5_, h6_, h7_, h8_, h9_, h10_, h11_, h12_, h13_, h14_, h15_⟩
              have n0_ : Aside0 (w34.heap[gb264]? = some (.cells #[.bool a2_0, .int .i64 a2_1, .int .i64 a2_2] 23 (0, 0))) := ⟨h0_⟩
              have n1_ : Aside0 (w34.heap[gb265]? = some (.cells #[.bool a3_0, .int .i64 a3_1, .int .i64 a3_2] 23 (0, 0))) := ⟨h1_⟩
              have n2_ : Aside0 (w34.heap[gb278]? = some (.cells #[.bool t272, .int .i64 t273, .int .i64 t274] 24 (0, 0))) := ⟨h2_⟩
              have n3_ : Aside0 (w34.heap[gb279]? = some (.cells #[.bool t275, .int .i64 t276, .int .i64 t277] 24 (0, 0))) := ⟨h3_⟩
              have n4_ : Aside0 (w34.heap[gb293]? = some (.cells #[.bool false, .int .i64 0, .int .i64 0] 24 (0, 0))) := ⟨h4_⟩
              have GW293 : Aside0 (w.heap.size ≤ gb293) := ⟨h5_⟩
              have GE293 : Aside0 (w.heap.size ≤ gb293) := ⟨h6_⟩
              have NB264_293 := A_ h7_
              have NB293_264 := A_ h8_
              have NB265_293 := A_ h9_
              have NB293_265 := A_ h10_
              have NB278_293 := A_ h11_
              have NB293_278 := A_ h12_
              have NB279_293 := A_ h13_
              have NB293_279 := A_ h14_
              have n15_ : Aside0 (Below w.heap.size w w34) := ⟨h15_⟩
              clear BK264 BK265
              clear BK278 BK279 HB
              clear h0_ h1_ h2_ h3_ h4_ h5_ h6_ h7_ h8_ h9_ h10_ h11_ h12_ h13_ h14_ h15_
              have BK264 := n0_
              have BK265 := n1_
              have BK278 := n2_
              have BK279 := n3_
              have BK293 := n4_
              have HB := n15_
              clear n0_ n1_ n2_ n3_ n4_ n15_
              have hHeld : w34.cell? ⟨gb264, 0, none⟩ = some (.bool a2_0) ∧ w34.cell? ⟨gb264, 1, none⟩ = some (.int .i64 a2_1) ∧ w34.cell? ⟨gb264, 2, none⟩ = some (.int .i64 a2_2) ∧ w34.cell? ⟨gb265, 0, none⟩ = some (.bool a3_0) ∧ w34.cell? ⟨gb265, 1, none⟩ = some (.int .i64 a3_1) ∧ w34.cell? ⟨gb265, 2, none⟩ = some (.int .i64 a3_2) := hS_
              refine norm_ (a' := ?_) ?_ ?_
              rotate_left
              ·simp only [putAll, Act.put, List.setIfInBounds_toArray, List.set_cons_zero, List.set_cons_succ]
               rfl
              refine two_ (i := 5) (j := 10) (Ni := some 29) (Nj := some 11) #[true, true, true, true, true, true, false, false, false, false, false, true, false, false] #[true, true, true, true, true, false, false, false, false, false, true, true, false, false] rfl rfl rfl rfl (two_of HT_.out (by kernel_rfl)) (by decide) (by decide) (fun K hK => ?_) (fun K hK => ?_)
              ·skip
               refine goes_ Try.func10 (by kernel_rfl) rfl #[.agg #[.bool a3_0, .int .i64 a3_1, .int .i64 a3_2]] (by rfl) rfl rfl (by (try simp only [List.map_toArray, List.map_cons, List.map_nil]); first | done | rfl) ?_
               with_reducible refine (laws_toSpan.calls a3_0 a3_1 a3_2 t269 t270 t271 _ A9.out).mono ?_
               rintro e w35 ⟨rfl, hb⟩
               refine ⟨_, rfl, ?_⟩
               have n0_ := A_ (blk_below (bz_ BK264.out) hb)
               have n1_ := A_ (blk_below (bz_ BK265.out) hb)
               have n2_ := A_ (blk_below (bz_ BK278.out) hb)
               have n3_ := A_ (blk_below (bz_ BK279.out) hb)
               have n4_ := A_ (blk_below (bz_ BK293.out) hb)
               have n5_ := A_ (below_step (by repeat (first | (with_reducible first | exact HB.out | apply b1_ | apply b2_ | apply b3_ | apply c_ GE264 | apply c_ GE265 | apply c_ GE278 | apply c_ GE279 | apply c_ GE293) | exact HB.out)) hb)
               clear BK264 BK265
               clear BK278 BK279
               clear BK293 HB
               have BK264 := n0_
               have BK265 := n1_
               have BK278 := n2_
               have BK279 := n3_
               have BK293 := n4_
               have HB := n5_
               clear n0_ n1_ n2_ n3_ n4_ n5_
               (try clear hb)
               (try clear hb2)
               (try clear hk)
               (try clear hi)
               refine hK.out _ _ ⟨bc_ BK264.out 0, bc_ BK264.out 1, bc_ BK264.out 2, bc_ BK265.out 0, bc_ BK265.out 1, bc_ BK265.out 2⟩ (fun hHeld => ?_)
               clear hK K
               refine norm_ (a' := ?_) ?_ ?_
               rotate_left
               ·show Act.put _ (some 29) _ = _
                simp only [Act.put, x1_, x2_, x3_, i64_w, i32_w]
                rfl
               exact norm_ (by simp only [putAll, Act.put, x1_, x2_, x3_] <;> rfl) (hJ3_5_11 (gb293) _ ⟨hHeld, (bz_ BK264.out), (bz_ BK265.out), (bz_ BK278.out), (bz_ BK279.out), (bz_ BK293.out), GW293.out, GE293.out, NB264_293.out, NB293_264.out, NB265_293.out, NB293_265.out, NB278_293.out, NB293_278.out, NB279_293.out, NB293_279.out, (by repeat (first | (with_reducible first | exact HB.out | apply b1_ | apply b2_ | apply b3_ | apply c_ GE264 | apply c_ GE265 | apply c_ GE278 | apply c_ GE279 | apply c_ GE293) | exact HB.out))⟩)
              ·skip
               refine box_step ?hg (N := 11) ?hd (cs := #[.bool false, .int .i64 0, .int .i64 0]) (t := 24) ?hr ?_; (case hd => rfl); (case hg => rfl); (case hr => first | (go_simp; done) | (go_simp; rfl))
               intro gb292 hg w35 hbox hb
               have n0_ := A_ (blk_below (bz_ BK264.out) hb)
               have n1_ := A_ (blk_below (bz_ BK265.out) hb)
               have n2_ := A_ (blk_below (bz_ BK278.out) hb)
               have n3_ := A_ (blk_below (bz_ BK279.out) hb)
               have n4_ := A_ (blk_below (bz_ BK293.out) hb)
               have n5_ := A_ (below_step (by repeat (first | (with_reducible first | exact HB.out | apply b1_ | apply b2_ | apply b3_ | apply c_ GE264 | apply c_ GE265 | apply c_ GE278 | apply c_ GE279 | apply c_ GE293) | exact HB.out)) hb)
               have n6_ := A_ (hbox)
               have n7_ := A_ (ge_ hg)
               have GE292 := n7_
               have NB264_292 := A_ (nl_ hg (bz_ BK264.out))
               have NB292_264 := A_ (ng_ hg (bz_ BK264.out))
               have NB265_292 := A_ (nl_ hg (bz_ BK265.out))
               have NB292_265 := A_ (ng_ hg (bz_ BK265.out))
               have NB278_292 := A_ (nl_ hg (bz_ BK278.out))
               have NB292_278 := A_ (ng_ hg (bz_ BK278.out))
               have NB279_292 := A_ (nl_ hg (bz_ BK279.out))
               have NB292_279 := A_ (ng_ hg (bz_ BK279.out))
               have NB293_292 := A_ (nl_ hg (bz_ BK293.out))
               have NB292_293 := A_ (ng_ hg (bz_ BK293.out))
               clear BK264 BK265
               clear BK278 BK279
               clear BK293 HB
               have BK264 := n0_
               have BK265 := n1_
               have BK278 := n2_
               have BK279 := n3_
               have BK293 := n4_
               have HB := n5_
               have BK292 := n6_
               have GW292 := n7_
               clear n0_ n1_ n2_ n3_ n4_ n5_ n6_ n7_
               clear hb hbox hg
               refine hK.out _ _ ⟨bc_ BK264.out 0, bc_ BK264.out 1, bc_ BK264.out 2, bc_ BK265.out 0, bc_ BK265.out 1, bc_ BK265.out 2⟩ (fun hHeld => ?_)
               clear hK K
               refine norm_ (a' := ?_) ?_ ?_
               rotate_left
               ·show Act.put _ (some 11) _ = _
                simp only [Act.put, x1_, x2_, x3_, i64_w, i32_w]
                rfl
               exact norm_ (by simp only [putAll, Act.put, x1_, x2_, x3_] <;> rfl) (hJ3_10_11 (gb292, gb293) _ ⟨hHeld, (bz_ BK264.out), (bz_ BK265.out), (bz_ BK278.out), (bz_ BK279.out), (bz_ BK292.out), (bz_ BK293.out), GW292.out, GE292.out, NB264_292.out, NB292_264.out, NB265_292.out, NB292_265.out, NB278_292.out, NB292_278.out, NB279_292.out, NB292_279.out, NB293_292.out, NB292_293.out, GW293.out, GE293.out, NB264_293.out, NB293_264.out, NB265_293.out, NB293_265.out, NB278_293.out, NB293_278.out, NB279_293.out, NB293_279.out, (by repeat (first | (with_reducible first | exact HB.out | apply b1_ | apply b2_ | apply b3_ | apply c_ GE264 | apply c_ GE265 | apply c_ GE278 | apply c_ GE279 | apply c_ GE293 | apply c_ GE292) | exact HB.out))⟩)
            ·skip
             rintro gb292 w34 ⟨hS_, h0_, h1_, h2_, h3_, h4_, h5_, h6_, h7_, h8_, h9_, h10_, h11_, h12_, h13_, h14_, h15_⟩
             have n0_ : Aside0 (w34.heap[gb264]? = some (.cells #[.bool a2_0, .int .i64 a2_1, .int .i64 a2_2] 23 (0, 0))) := ⟨h0_⟩
             have n1_ : Aside0 (w34.heap[gb265]? = some (.cells #[.bool a3_0, .int .i64 a3_1, .int .i64 a3_2] 23 (0, 0))) := ⟨h1_⟩
             have n2_ : Aside0 (w34.heap[gb278]? = some (.cells #[.bool t272, .int .i64 t273, .int .i64 t274] 24 (0, 0))) := ⟨h2_⟩
             have n3_ : Aside0 (w34.heap[gb279]? = some (.cells #[.bool t275, .int .i64 t276, .int .i64 t277] 24 (0, 0))) := ⟨h3_⟩
             have n4_ : Aside0 (w34.heap[gb292]? = some (.cells #[.bool false, .int .i64 0, .int .i64 0] 24 (0, 0))) := ⟨h4_⟩
             have GW292 : Aside0 (w.heap.size ≤ gb292) := ⟨h5_⟩
             have GE292 : Aside0 (w.heap.size ≤ gb292) := ⟨h6_⟩
             have NB264_292 := A_ h7_
             have NB292_264 := A_ h8_
             have NB265_292 := A_ h9_
             have NB292_265 := A_ h10_
             have NB278_292 := A_ h11_
             have NB292_278 := A_ h12_
             have NB279_292 := A_ h13_
             have NB292_279 := A_ h14_
             have n15_ : Aside0 (Below w.heap.size w w34) := ⟨h15_⟩
             clear BK264 BK265
             clear BK278 BK279 HB
             clear h0_ h1_ h2_ h3_ h4_ h5_ h6_ h7_ h8_ h9_ h10_ h11_ h12_ h13_ h14_ h15_
             have BK264 := n0_
             have BK265 := n1_
             have BK278 := n2_
             have BK279 := n3_
             have BK292 := n4_
             have HB := n15_
             clear n0_ n1_ n2_ n3_ n4_ n15_
             have hHeld : w34.cell? ⟨gb264, 0, none⟩ = some (.bool a2_0) ∧ w34.cell? ⟨gb264, 1, none⟩ = some (.int .i64 a2_1) ∧ w34.cell? ⟨gb264, 2, none⟩ = some (.int .i64 a2_2) ∧ w34.cell? ⟨gb265, 0, none⟩ = some (.bool a3_0) ∧ w34.cell? ⟨gb265, 1, none⟩ = some (.int .i64 a3_1) ∧ w34.cell? ⟨gb265, 2, none⟩ = some (.int .i64 a3_2) := hS_
             refine norm_ (a' := ?_) ?_ ?_
             rotate_left
             ·simp only [putAll, Act.put, List.setIfInBounds_toArray, List.set_cons_zero, List.set_cons_succ]
              rfl
             refine two_ (i := 5) (j := 11) (Ni := some 29) (Nj := some 12) #[true, true, true, true, true, true, false, false, false, false, true, false, false, false] #[true, true, true, true, true, false, false, false, false, false, true, true, false, false] rfl rfl rfl rfl (two_of HT_.out (by kernel_rfl)) (by decide) (by decide) (fun K hK => ?_) (fun K hK => ?_)
             ·skip
              refine goes_ Try.func10 (by kernel_rfl) rfl #[.agg #[.bool a3_0, .int .i64 a3_1, .int .i64 a3_2]] (by rfl) rfl rfl (by (try simp only [List.map_toArray, List.map_cons, List.map_nil]); first | done | rfl) ?_
              with_reducible refine (laws_toSpan.calls a3_0 a3_1 a3_2 t269 t270 t271 _ A9.out).mono ?_
              rintro e w35 ⟨rfl, hb⟩
              refine ⟨_, rfl, ?_⟩
              have n0_ := A_ (blk_below (bz_ BK264.out) hb)
              have n1_ := A_ (blk_below (bz_ BK265.out) hb)
              have n2_ := A_ (blk_below (bz_ BK278.out) hb)
              have n3_ := A_ (blk_below (bz_ BK279.out) hb)
              have n4_ := A_ (blk_below (bz_ BK292.out) hb)
              have n5_ := A_ (below_step (by repeat (first | (with_reducible first | exact HB.out | apply b1_ | apply b2_ | apply b3_ | apply c_ GE264 | apply c_ GE265 | apply c_ GE278 | apply c_ GE279 | apply c_ GE292) | exact HB.out)) hb)
              clear BK264 BK265
              clear BK278 BK279
              clear BK292 HB
              have BK264 := n0_
              have BK265 := n1_
              have BK278 := n2_
              have BK279 := n3_
              have BK292 := n4_
              have HB := n5_
              clear n0_ n1_ n2_ n3_ n4_ n5_
              (try clear hb)
              (try clear hb2)
              (try clear hk)
              (try clear hi)
              refine hK.out _ _ ⟨bc_ BK264.out 0, bc_ BK264.out 1, bc_ BK264.out 2, bc_ BK265.out 0, bc_ BK265.out 1, bc_ BK265.out 2⟩ (fun hHeld => ?_)
              clear hK K
              refine norm_ (a' := ?_) ?_ ?_
              rotate_left
              ·show Act.put _ (some 29) _ = _
               simp only [Act.put, x1_, x2_, x3_, i64_w, i32_w]
               rfl
              exact norm_ (by simp only [putAll, Act.put, x1_, x2_, x3_] <;> rfl) (hJ3_5_10 (gb292) _ ⟨hHeld, (bz_ BK264.out), (bz_ BK265.out), (bz_ BK278.out), (bz_ BK279.out), (bz_ BK292.out), GW292.out, GE292.out, NB264_292.out, NB292_264.out, NB265_292.out, NB292_265.out, NB278_292.out, NB292_278.out, NB279_292.out, NB292_279.out, (by repeat (first | (with_reducible first | exact HB.out | apply b1_ | apply b2_ | apply b3_ | apply c_ GE264 | apply c_ GE265 | apply c_ GE278 | apply c_ GE279 | apply c_ GE292) | exact HB.out))⟩)
             ·skip
              refine box_step ?hg (N := 12) ?hd (cs := #[.bool false, .int .i64 0, .int .i64 0]) (t := 24) ?hr ?_; (case hd => rfl); (case hg => rfl); (case hr => first | (go_simp; done) | (go_simp; rfl))
              intro gb293 hg w35 hbox hb
              have n0_ := A_ (blk_below (bz_ BK264.out) hb)
              have n1_ := A_ (blk_below (bz_ BK265.out) hb)
              have n2_ := A_ (blk_below (bz_ BK278.out) hb)
              have n3_ := A_ (blk_below (bz_ BK279.out) hb)
              have n4_ := A_ (blk_below (bz_ BK292.out) hb)
              have n5_ := A_ (below_step (by repeat (first | (with_reducible first | exact HB.out | apply b1_ | apply b2_ | apply b3_ | apply c_ GE264 | apply c_ GE265 | apply c_ GE278 | apply c_ GE279 | apply c_ GE292) | exact HB.out)) hb)
              have n6_ := A_ (hbox)
              have n7_ := A_ (ge_ hg)
              have GE293 := n7_
              have NB264_293 := A_ (nl_ hg (bz_ BK264.out))
              have NB293_264 := A_ (ng_ hg (bz_ BK264.out))
              have NB265_293 := A_ (nl_ hg (bz_ BK265.out))
              have NB293_265 := A_ (ng_ hg (bz_ BK265.out))
              have NB278_293 := A_ (nl_ hg (bz_ BK278.out))
              have NB293_278 := A_ (ng_ hg (bz_ BK278.out))
              have NB279_293 := A_ (nl_ hg (bz_ BK279.out))
              have NB293_279 := A_ (ng_ hg (bz_ BK279.out))
              have NB292_293 := A_ (nl_ hg (bz_ BK292.out))
              have NB293_292 := A_ (ng_ hg (bz_ BK292.out))
              clear BK264 BK265
              clear BK278 BK279
              clear BK292 HB
              have BK264 := n0_
              have BK265 := n1_
              have BK278 := n2_
              have BK279 := n3_
              have BK292 := n4_
              have HB := n5_
              have BK293 := n6_
              have GW293 := n7_
              clear n0_ n1_ n2_ n3_ n4_ n5_ n6_ n7_
              clear hb hbox hg
              refine hK.out _ _ ⟨bc_ BK264.out 0, bc_ BK264.out 1, bc_ BK264.out 2, bc_ BK265.out 0, bc_ BK265.out 1, bc_ BK265.out 2⟩ (fun hHeld => ?_)
              clear hK K
              refine norm_ (a' := ?_) ?_ ?_
              rotate_left
              ·show Act.put _ (some 12) _ = _
               simp only [Act.put, x1_, x2_, x3_, i64_w, i32_w]
               rfl
              exact norm_ (by simp only [putAll, Act.put, x1_, x2_, x3_] <;> rfl) (hJ3_10_11 (gb292, gb293) _ ⟨hHeld, (bz_ BK264.out), (bz_ BK265.out), (bz_ BK278.out), (bz_ BK279.out), (bz_ BK292.out), (bz_ BK293.out), GW292.out, GE292.out, NB264_292.out, NB292_264.out, NB265_292.out, NB292_265.out, NB278_292.out, NB292_278.out, NB279_292.out, NB292_279.out, NB293_292.out, NB292_293.out, GW293.out, GE293.out, NB264_293.out, NB293_264.out, NB265_293.out, NB293_265.out, NB278_293.out, NB293_278.out, NB279_293.out, NB293_279.out, (by repeat (first | (with_reducible first | exact HB.out | apply b1_ | apply b2_ | apply b3_ | apply c_ GE264 | apply c_ GE265 | apply c_ GE278 | apply c_ GE279 | apply c_ GE292 | apply c_ GE293) | exact HB.out))⟩)
           ·skip
            rintro _ w34 ⟨hS_, h0_, h1_, h2_, h3_, h4_⟩
            have n0_ : Aside0 (w34.heap[gb264]? = some (.cells #[.bool a2_0, .int .i64 a2_1, .int .i64 a2_2] 23 (0, 0))) := ⟨h0_⟩
            have n1_ : Aside0 (w34.heap[gb265]? = some (.cells #[.bool a3_0, .int .i64 a3_1, .int .i64 a3_2] 23 (0, 0))) := ⟨h1_⟩
            have n2_ : Aside0 (w34.heap[gb278]? = some (.cells #[.bool t272, .int .i64 t273, .int .i64 t274] 24 (0, 0))) := ⟨h2_⟩
            have n3_ : Aside0 (w34.heap[gb279]? = some (.cells #[.bool t275, .int .i64 t276, .int .i64 t277] 24 (0, 0))) := ⟨h3_⟩
            have n4_ : Aside0 (Below w.heap.size w w34) := ⟨h4_⟩
            clear BK264 BK265
            clear BK278 BK279 HB
            clear h0_ h1_ h2_ h3_ h4_
            have BK264 := n0_
            have BK265 := n1_
            have BK278 := n2_
            have BK279 := n3_
            have HB := n4_
            clear n0_ n1_ n2_ n3_ n4_
            have hHeld : w34.cell? ⟨gb264, 0, none⟩ = some (.bool a2_0) ∧ w34.cell? ⟨gb264, 1, none⟩ = some (.int .i64 a2_1) ∧ w34.cell? ⟨gb264, 2, none⟩ = some (.int .i64 a2_2) ∧ w34.cell? ⟨gb265, 0, none⟩ = some (.bool a3_0) ∧ w34.cell? ⟨gb265, 1, none⟩ = some (.int .i64 a3_1) ∧ w34.cell? ⟨gb265, 2, none⟩ = some (.int .i64 a3_2) := hS_
            refine norm_ (a' := ?_) ?_ ?_
            rotate_left
            ·simp only [putAll, Act.put, List.setIfInBounds_toArray, List.set_cons_zero, List.set_cons_succ]
             rfl
            refine three_ (i := 6) (j := 10) (k := 11) (Ni := some 30) (Nj := some 11) (Nk := some 12) #[true, true, true, true, true, true, true, false, false, false, false, false, false, false] #[true, true, true, true, true, true, false, false, false, false, true, false, false, false] #[true, true, true, true, true, true, false, false, false, false, false, true, false, false] rfl rfl rfl rfl rfl rfl (three_of HT_.out (by kernel_rfl)) (by decide) (by decide) (by decide) (fun K hK => ?_) (fun K hK => ?_) (fun K hK => ?_)
            ·skip
             refine goes_ Try.func11 (by kernel_rfl) rfl #[.int .i64 a0, .int .i64 a1, .agg #[.bool t266, .int .i64 t267, .int .i64 t268], .agg #[.bool t269, .int .i64 t270, .int .i64 t271]] (by rfl) rfl rfl (by (try simp only [List.map_toArray, List.map_cons, List.map_nil]); first | done | rfl) ?_
             with_reducible refine (impl_RelMeet.calls k a0 a1 t266 t267 t268 t269 t270 t271 t286 t287 t288 t289 t290 t291 _ A10.out).mono ?_
             rintro e w35 ⟨rfl, hb⟩
             refine ⟨_, rfl, ?_⟩
             have n0_ := A_ (blk_below (bz_ BK264.out) hb)
             have n1_ := A_ (blk_below (bz_ BK265.out) hb)
             have n2_ := A_ (blk_below (bz_ BK278.out) hb)
             have n3_ := A_ (blk_below (bz_ BK279.out) hb)
             have n4_ := A_ (below_step (by repeat (first | (with_reducible first | exact HB.out | apply b1_ | apply b2_ | apply b3_ | apply c_ GE264 | apply c_ GE265 | apply c_ GE278 | apply c_ GE279) | exact HB.out)) hb)
             clear BK264 BK265
             clear BK278 BK279 HB
             have BK264 := n0_
             have BK265 := n1_
             have BK278 := n2_
             have BK279 := n3_
             have HB := n4_
             clear n0_ n1_ n2_ n3_ n4_
             (try clear hb)
             (try clear hb2)
             (try clear hk)
             (try clear hi)
             refine hK.out _ _ ⟨bc_ BK264.out 0, bc_ BK264.out 1, bc_ BK264.out 2, bc_ BK265.out 0, bc_ BK265.out 1, bc_ BK265.out 2⟩ (fun hHeld => ?_)
             clear hK K
             refine norm_ (a' := ?_) ?_ ?_
             rotate_left
             ·show Act.put _ (some 30) _ = _
              simp only [Act.put, x1_, x2_, x3_, i64_w, i32_w]
              rfl
             refine pure_ (i := 7) (N := some 23) (v := ?_) (a' := ?_) #[true, true, true, true, true, true, true, true, false, false, false, false, false, false] rfl rfl (any_of HT_.out (by kernel_rfl)) (fun _ _ _ h => h) (Or.inl ⟨by rfl, ?_⟩) ?_ ?_
             rotate_left
             ·intro w'
              go_simp
              with_reducible rfl
             rotate_left
             ·simp only [Act.put, x1_, x2_, x3_, i64_w, i32_w]
              rfl
             refine pure_ (i := 8) (N := some 31) (v := ?_) (a' := ?_) #[true, true, true, true, true, true, true, true, true, false, false, false, false, false] rfl rfl (any_of HT_.out (by kernel_rfl)) (fun _ _ _ h => h) (Or.inl ⟨by rfl, ?_⟩) ?_ ?_
             rotate_left
             ·intro w'
              go_simp
              with_reducible rfl
             rotate_left
             ·simp only [Act.put, x1_, x2_, x3_, i64_w, i32_w]
              rfl
             refine pure_ (i := 9) (N := some 32) (v := ?_) (a' := ?_) #[true, true, true, true, true, true, true, true, true, true, false, false, false, false] rfl rfl (any_of HT_.out (by kernel_rfl)) (fun _ _ _ h => h) (Or.inl ⟨by rfl, ?_⟩) ?_ ?_
             rotate_left
             ·intro w'
              go_simp
              with_reducible rfl
             rotate_left
             ·simp only [Act.put, x1_, x2_, x3_, i64_w, i32_w]
              rfl
             exact norm_ (by simp only [putAll, Act.put, x1_, x2_, x3_] <;> rfl) (hJ3_5_6 () _ ⟨hHeld, (bz_ BK264.out), (bz_ BK265.out), (bz_ BK278.out), (bz_ BK279.out), (by repeat (first | (with_reducible first | exact HB.out | apply b1_ | apply b2_ | apply b3_ | apply c_ GE264 | apply c_ GE265 | apply c_ GE278 | apply c_ GE279) | exact HB.out))⟩)
            ·skip
             refine box_step ?hg (N := 11) ?hd (cs := #[.bool false, .int .i64 0, .int .i64 0]) (t := 24) ?hr ?_; (case hd => rfl); (case hg => rfl); (case hr => first | (go_simp; done) | (go_simp; rfl))
             intro gb292 hg w35 hbox hb
             have n0_ := A_ (blk_below (bz_ BK264.out) hb)
             have n1_ := A_ (blk_below (bz_ BK265.out) hb)
             have n2_ := A_ (blk_below (bz_ BK278.out) hb)
             have n3_ := A_ (blk_below (bz_ BK279.out) hb)
             have n4_ := A_ (below_step (by repeat (first | (with_reducible first | exact HB.out | apply b1_ | apply b2_ | apply b3_ | apply c_ GE264 | apply c_ GE265 | apply c_ GE278 | apply c_ GE279) | exact HB.out)) hb)
             have n5_ := A_ (hbox)
             have n6_ := A_ (ge_ hg)
             have GE292 := n6_
             have NB264_292 := A_ (nl_ hg (bz_ BK264.out))
             have NB292_264 := A_ (ng_ hg (bz_ BK264.out))
             have NB265_292 := A_ (nl_ hg (bz_ BK265.out))
             have NB292_265 := A_ (ng_ hg (bz_ BK265.out))
             have NB278_292 := A_ (nl_ hg (bz_ BK278.out))
             have NB292_278 := A_ (ng_ hg (bz_ BK278.out))
             have NB279_292 := A_ (nl_ hg (bz_ BK279.out))
             have NB292_279 := A_ (ng_ hg (bz_ BK279.out))
             clear BK264 BK265
             clear BK278 BK279 HB
             have BK264 := n0_
             have BK265 := n1_
             have BK278 := n2_
             have BK279 := n3_
             have HB := n4_
             have BK292 := n5_
             have GW292 := n6_
             clear n0_ n1_ n2_ n3_ n4_ n5_ n6_
             clear hb hbox hg
             refine hK.out _ _ ⟨bc_ BK264.out 0, bc_ BK264.out 1, bc_ BK264.out 2, bc_ BK265.out 0, bc_ BK265.out 1, bc_ BK265.out 2⟩ (fun hHeld => ?_)
             clear hK K
             refine norm_ (a' := ?_) ?_ ?_
             rotate_left
             ·show Act.put _ (some 11) _ = _
              simp only [Act.put, x1_, x2_, x3_, i64_w, i32_w]
              rfl
             exact norm_ (by simp only [putAll, Act.put, x1_, x2_, x3_] <;> rfl) (hJ3_5_10 (gb292) _ ⟨hHeld, (bz_ BK264.out), (bz_ BK265.out), (bz_ BK278.out), (bz_ BK279.out), (bz_ BK292.out), GW292.out, GE292.out, NB264_292.out, NB292_264.out, NB265_292.out, NB292_265.out, NB278_292.out, NB292_278.out, NB279_292.out, NB292_279.out, (by repeat (first | (with_reducible first | exact HB.out | apply b1_ | apply b2_ | apply b3_ | apply c_ GE264 | apply c_ GE265 | apply c_ GE278 | apply c_ GE279 | apply c_ GE292) | exact HB.out))⟩)
            ·skip
             refine box_step ?hg (N := 12) ?hd (cs := #[.bool false, .int .i64 0, .int .i64 0]) (t := 24) ?hr ?_; (case hd => rfl); (case hg => rfl); (case hr => first | (go_simp; done) | (go_simp; rfl))
             intro gb293 hg w35 hbox hb
             have n0_ := A_ (blk_below (bz_ BK264.out) hb)
             have n1_ := A_ (blk_below (bz_ BK265.out) hb)
             have n2_ := A_ (blk_below (bz_ BK278.out) hb)
             have n3_ := A_ (blk_below (bz_ BK279.out) hb)
             have n4_ := A_ (below_step (by repeat (first | (with_reducible first | exact HB.out | apply b1_ | apply b2_ | apply b3_ | apply c_ GE264 | apply c_ GE265 | apply c_ GE278 | apply c_ GE279) | exact HB.out)) hb)
             have n5_ := A_ (hbox)
             have n6_ := A_ (ge_ hg)
             have GE293 := n6_
             have NB264_293 := A_ (nl_ hg (bz_ BK264.out))
             have NB293_264 := A_ (ng_ hg (bz_ BK264.out))
             have NB265_293 := A_ (nl_ hg (bz_ BK265.out))
             have NB293_265 := A_ (ng_ hg (bz_ BK265.out))
             have NB278_293 := A_ (nl_ hg (bz_ BK278.out))
             have NB293_278 := A_ (ng_ hg (bz_ BK278.out))
             have NB279_293 := A_ (nl_ hg (bz_ BK279.out))
             have NB293_279 := A_ (ng_ hg (bz_ BK279.out))
             clear BK264 BK265
             clear BK278 BK279 HB
             have BK264 := n0_
             have BK265 := n1_
             have BK278 := n2_
             have BK279 := n3_
             have HB := n4_
             have BK293 := n5_
             have GW293 := n6_
             clear n0_ n1_ n2_ n3_ n4_ n5_ n6_
             clear hb hbox hg
             refine hK.out _ _ ⟨bc_ BK264.out 0, bc_ BK264.out 1, bc_ BK264.out 2, bc_ BK265.out 0, bc_ BK265.out 1, bc_ BK265.out 2⟩ (fun hHeld => ?_)
             clear hK K
             refine norm_ (a' := ?_) ?_ ?_
             rotate_left
             ·show Act.put _ (some 12) _ = _
              simp only [Act.put, x1_, x2_, x3_, i64_w, i32_w]
              rfl
             exact norm_ (by simp only [putAll, Act.put, x1_, x2_, x3_] <;> rfl) (hJ3_5_11 (gb293) _ ⟨hHeld, (bz_ BK264.out), (bz_ BK265.out), (bz_ BK278.out), (bz_ BK279.out), (bz_ BK293.out), GW293.out, GE293.out, NB264_293.out, NB293_264.out, NB265_293.out, NB293_265.out, NB278_293.out, NB293_278.out, NB279_293.out, NB293_279.out, (by repeat (first | (with_reducible first | exact HB.out | apply b1_ | apply b2_ | apply b3_ | apply c_ GE264 | apply c_ GE265 | apply c_ GE278 | apply c_ GE279 | apply c_ GE293) | exact HB.out))⟩)
          ·skip
           rintro ⟨gb292, gb293⟩ w35 ⟨hS_, h0_, h1_, h2_, h3_, h4_, h5_, h6_, h7_, h8_, h9_, h10_, h11_, h12_, h13_, h14_, h15_, h16_, h17_, h18_, h19_, h20_, h21_, h22_, h23_, h24_, h25_, h26_, h27_, h28_⟩
           have n0_ : Aside0 (w35.heap[gb264]? = some (.cells #[.bool a2_0, .int .i64 a2_1, .int .i64 a2_2] 23 (0, 0))) := ⟨h0_⟩
           have n1_ : Aside0 (w35.heap[gb265]? = some (.cells #[.bool a3_0, .int .i64 a3_1, .int .i64 a3_2] 23 (0, 0))) := ⟨h1_⟩
           have n2_ : Aside0 (w35.heap[gb278]? = some (.cells #[.bool t272, .int .i64 t273, .int .i64 t274] 24 (0, 0))) := ⟨h2_⟩
           have n3_ : Aside0 (w35.heap[gb279]? = some (.cells #[.bool t275, .int .i64 t276, .int .i64 t277] 24 (0, 0))) := ⟨h3_⟩
           have n4_ : Aside0 (w35.heap[gb292]? = some (.cells #[.bool false, .int .i64 0, .int .i64 0] 24 (0, 0))) := ⟨h4_⟩
           have n5_ : Aside0 (w35.heap[gb293]? = some (.cells #[.bool false, .int .i64 0, .int .i64 0] 24 (0, 0))) := ⟨h5_⟩
           have GW292 : Aside0 (w.heap.size ≤ gb292) := ⟨h6_⟩
           have GE292 : Aside0 (w.heap.size ≤ gb292) := ⟨h7_⟩
           have NB264_292 := A_ h8_
           have NB292_264 := A_ h9_
           have NB265_292 := A_ h10_
           have NB292_265 := A_ h11_
           have NB278_292 := A_ h12_
           have NB292_278 := A_ h13_
           have NB279_292 := A_ h14_
           have NB292_279 := A_ h15_
           have NB293_292 := A_ h16_
           have NB292_293 := A_ h17_
           have GW293 : Aside0 (w.heap.size ≤ gb293) := ⟨h18_⟩
           have GE293 : Aside0 (w.heap.size ≤ gb293) := ⟨h19_⟩
           have NB264_293 := A_ h20_
           have NB293_264 := A_ h21_
           have NB265_293 := A_ h22_
           have NB293_265 := A_ h23_
           have NB278_293 := A_ h24_
           have NB293_278 := A_ h25_
           have NB279_293 := A_ h26_
           have NB293_279 := A_ h27_
           have n28_ : Aside0 (Below w.heap.size w w35) := ⟨h28_⟩
           clear BK264 BK265
           clear BK278 BK279 HB
           clear h0_ h1_ h2_ h3_ h4_ h5_ h6_ h7_ h8_ h9_ h10_ h11_ h12_ h13_ h14_ h15_ h16_ h17_ h18_ h19_ h20_ h21_ h22_ h23_ h24_ h25_ h26_ h27_ h28_
           have BK264 := n0_
           have BK265 := n1_
           have BK278 := n2_
           have BK279 := n3_
           have BK292 := n4_
           have BK293 := n5_
           have HB := n28_
           clear n0_ n1_ n2_ n3_ n4_ n5_ n28_
           have hHeld : w35.cell? ⟨gb264, 0, none⟩ = some (.bool a2_0) ∧ w35.cell? ⟨gb264, 1, none⟩ = some (.int .i64 a2_1) ∧ w35.cell? ⟨gb264, 2, none⟩ = some (.int .i64 a2_2) ∧ w35.cell? ⟨gb265, 0, none⟩ = some (.bool a3_0) ∧ w35.cell? ⟨gb265, 1, none⟩ = some (.int .i64 a3_1) ∧ w35.cell? ⟨gb265, 2, none⟩ = some (.int .i64 a3_2) := hS_
           refine norm_ (a' := ?_) ?_ ?_
           rotate_left
           ·simp only [putAll, Act.put, List.setIfInBounds_toArray, List.set_cons_zero, List.set_cons_succ]
            rfl
           refine one_ (i := 5) (N := some 29) #[true, true, true, true, true, true, false, false, false, false, true, true, false, false] rfl rfl (one_of HT_.out (by kernel_rfl)) (by decide) (fun K hK => ?_)
           refine goes_ Try.func10 (by kernel_rfl) rfl #[.agg #[.bool a3_0, .int .i64 a3_1, .int .i64 a3_2]] (by rfl) rfl rfl (by (try simp only [List.map_toArray, List.map_cons, List.map_nil]); first | done | rfl) ?_
           with_reducible refine (laws_toSpan.calls a3_0 a3_1 a3_2 t269 t270 t271 _ A9.out).mono ?_
           rintro e w36 ⟨rfl, hb⟩
           refine ⟨_, rfl, ?_⟩
           have n0_ := A_ (blk_below (bz_ BK264.out) hb)
           have n1_ := A_ (blk_below (bz_ BK265.out) hb)
           have n2_ := A_ (blk_below (bz_ BK278.out) hb)
           have n3_ := A_ (blk_below (bz_ BK279.out) hb)
           have n4_ := A_ (blk_below (bz_ BK292.out) hb)
           have n5_ := A_ (blk_below (bz_ BK293.out) hb)
           have n6_ := A_ (below_step (by repeat (first | (with_reducible first | exact HB.out | apply b1_ | apply b2_ | apply b3_ | apply c_ GE264 | apply c_ GE265 | apply c_ GE278 | apply c_ GE279 | apply c_ GE292 | apply c_ GE293) | exact HB.out)) hb)
           clear BK264 BK265
           clear BK278 BK279
           clear BK292 BK293 HB
           have BK264 := n0_
           have BK265 := n1_
           have BK278 := n2_
           have BK279 := n3_
           have BK292 := n4_
           have BK293 := n5_
           have HB := n6_
           clear n0_ n1_ n2_ n3_ n4_ n5_ n6_
           (try clear hb)
           (try clear hb2)
           (try clear hk)
           (try clear hi)
           refine hK.out _ _ ⟨bc_ BK264.out 0, bc_ BK264.out 1, bc_ BK264.out 2, bc_ BK265.out 0, bc_ BK265.out 1, bc_ BK265.out 2⟩ (fun hHeld => ?_)
           clear hK K
           refine norm_ (a' := ?_) ?_ ?_
           rotate_left
           ·show Act.put _ (some 29) _ = _
            simp only [Act.put, x1_, x2_, x3_, i64_w, i32_w]
            rfl
           exact norm_ (by simp only [putAll, Act.put, x1_, x2_, x3_] <;> rfl) (hJ3_5_10_11 (gb292, gb293) _ ⟨hHeld, (bz_ BK264.out), (bz_ BK265.out), (bz_ BK278.out), (bz_ BK279.out), (bz_ BK292.out), (bz_ BK293.out), GW292.out, GE292.out, NB264_292.out, NB292_264.out, NB265_292.out, NB292_265.out, NB278_292.out, NB292_278.out, NB279_292.out, NB292_279.out, NB293_292.out, NB292_293.out, GW293.out, GE293.out, NB264_293.out, NB293_264.out, NB265_293.out, NB293_265.out, NB278_293.out, NB293_278.out, NB279_293.out, NB293_279.out, (by repeat (first | (with_reducible first | exact HB.out | apply b1_ | apply b2_ | apply b3_ | apply c_ GE264 | apply c_ GE265 | apply c_ GE278 | apply c_ GE279 | apply c_ GE292 | apply c_ GE293) | exact HB.out))⟩)
         ·skip
          rintro gb293 w35 ⟨hS_, h0_, h1_, h2_, h3_, h4_, h5_, h6_, h7_, h8_, h9_, h10_, h11_, h12_, h13_, h14_, h15_⟩
          have n0_ : Aside0 (w35.heap[gb264]? = some (.cells #[.bool a2_0, .int .i64 a2_1, .int .i64 a2_2] 23 (0, 0))) := ⟨h0_⟩
          have n1_ : Aside0 (w35.heap[gb265]? = some (.cells #[.bool a3_0, .int .i64 a3_1, .int .i64 a3_2] 23 (0, 0))) := ⟨h1_⟩
          have n2_ : Aside0 (w35.heap[gb278]? = some (.cells #[.bool t272, .int .i64 t273, .int .i64 t274] 24 (0, 0))) := ⟨h2_⟩
          have n3_ : Aside0 (w35.heap[gb279]? = some (.cells #[.bool t275, .int .i64 t276, .int .i64 t277] 24 (0, 0))) := ⟨h3_⟩
          have n4_ : Aside0 (w35.heap[gb293]? = some (.cells #[.bool false, .int .i64 0, .int .i64 0] 24 (0, 0))) := ⟨h4_⟩
          have GW293 : Aside0 (w.heap.size ≤ gb293) := ⟨h5_⟩
          have GE293 : Aside0 (w.heap.size ≤ gb293) := ⟨h6_⟩
          have NB264_293 := A_ h7_
          have NB293_264 := A_ h8_
          have NB265_293 := A_ h9_
          have NB293_265 := A_ h10_
          have NB278_293 := A_ h11_
          have NB293_278 := A_ h12_
          have NB279_293 := A_ h13_
          have NB293_279 := A_ h14_
          have n15_ : Aside0 (Below w.heap.size w w35) := ⟨h15_⟩
          clear BK264 BK265
          clear BK278 BK279 HB
          clear h0_ h1_ h2_ h3_ h4_ h5_ h6_ h7_ h8_ h9_ h10_ h11_ h12_ h13_ h14_ h15_
          have BK264 := n0_
          have BK265 := n1_
          have BK278 := n2_
          have BK279 := n3_
          have BK293 := n4_
          have HB := n15_
          clear n0_ n1_ n2_ n3_ n4_ n15_
          have hHeld : w35.cell? ⟨gb264, 0, none⟩ = some (.bool a2_0) ∧ w35.cell? ⟨gb264, 1, none⟩ = some (.int .i64 a2_1) ∧ w35.cell? ⟨gb264, 2, none⟩ = some (.int .i64 a2_2) ∧ w35.cell? ⟨gb265, 0, none⟩ = some (.bool a3_0) ∧ w35.cell? ⟨gb265, 1, none⟩ = some (.int .i64 a3_1) ∧ w35.cell? ⟨gb265, 2, none⟩ = some (.int .i64 a3_2) := hS_
          refine norm_ (a' := ?_) ?_ ?_
          rotate_left
          ·simp only [putAll, Act.put, List.setIfInBounds_toArray, List.set_cons_zero, List.set_cons_succ]
           rfl
          refine two_ (i := 6) (j := 10) (Ni := some 30) (Nj := some 11) #[true, true, true, true, true, true, true, false, false, false, false, true, false, false] #[true, true, true, true, true, true, false, false, false, false, true, true, false, false] rfl rfl rfl rfl (two_of HT_.out (by kernel_rfl)) (by decide) (by decide) (fun K hK => ?_) (fun K hK => ?_)
          ·skip
           refine goes_ Try.func11 (by kernel_rfl) rfl #[.int .i64 a0, .int .i64 a1, .agg #[.bool t266, .int .i64 t267, .int .i64 t268], .agg #[.bool t269, .int .i64 t270, .int .i64 t271]] (by rfl) rfl rfl (by (try simp only [List.map_toArray, List.map_cons, List.map_nil]); first | done | rfl) ?_
           with_reducible refine (impl_RelMeet.calls k a0 a1 t266 t267 t268 t269 t270 t271 t286 t287 t288 t289 t290 t291 _ A10.out).mono ?_
           rintro e w36 ⟨rfl, hb⟩
           refine ⟨_, rfl, ?_⟩
           have n0_ := A_ (blk_below (bz_ BK264.out) hb)
           have n1_ := A_ (blk_below (bz_ BK265.out) hb)
           have n2_ := A_ (blk_below (bz_ BK278.out) hb)
           have n3_ := A_ (blk_below (bz_ BK279.out) hb)
           have n4_ := A_ (blk_below (bz_ BK293.out) hb)
           have n5_ := A_ (below_step (by repeat (first | (with_reducible first | exact HB.out | apply b1_ | apply b2_ | apply b3_ | apply c_ GE264 | apply c_ GE265 | apply c_ GE278 | apply c_ GE279 | apply c_ GE293) | exact HB.out)) hb)
           clear BK264 BK265
           clear BK278 BK279
           clear BK293 HB
           have BK264 := n0_
           have BK265 := n1_
           have BK278 := n2_
           have BK279 := n3_
           have BK293 := n4_
           have HB := n5_
           clear n0_ n1_ n2_ n3_ n4_ n5_
           (try clear hb)
           (try clear hb2)
           (try clear hk)
           (try clear hi)
           refine hK.out _ _ ⟨bc_ BK264.out 0, bc_ BK264.out 1, bc_ BK264.out 2, bc_ BK265.out 0, bc_ BK265.out 1, bc_ BK265.out 2⟩ (fun hHeld => ?_)
           clear hK K
           refine norm_ (a' := ?_) ?_ ?_
           rotate_left
           ·show Act.put _ (some 30) _ = _
            simp only [Act.put, x1_, x2_, x3_, i64_w, i32_w]
            rfl
           refine pure_ (i := 7) (N := some 23) (v := ?_) (a' := ?_) #[true, true, true, true, true, true, true, true, false, false, false, true, false, false] rfl rfl (any_of HT_.out (by kernel_rfl)) (fun _ _ _ h => h) (Or.inl ⟨by rfl, ?_⟩) ?_ ?_
           rotate_left
           ·intro w'
            go_simp
            with_reducible rfl
           rotate_left
           ·simp only [Act.put, x1_, x2_, x3_, i64_w, i32_w]
            rfl
           refine pure_ (i := 8) (N := some 31) (v := ?_) (a' := ?_) #[true, true, true, true, true, true, true, true, true, false, false, true, false, false] rfl rfl (any_of HT_.out (by kernel_rfl)) (fun _ _ _ h => h) (Or.inl ⟨by rfl, ?_⟩) ?_ ?_
           rotate_left
           ·intro w'
            go_simp
            with_reducible rfl
           rotate_left
           ·simp only [Act.put, x1_, x2_, x3_, i64_w, i32_w]
            rfl
           refine pure_ (i := 9) (N := some 32) (v := ?_) (a' := ?_) #[true, true, true, true, true, true, true, true, true, true, false, true, false, false] rfl rfl (any_of HT_.out (by kernel_rfl)) (fun _ _ _ h => h) (Or.inl ⟨by rfl, ?_⟩) ?_ ?_
           rotate_left
           ·intro w'
            go_simp
            with_reducible rfl
           rotate_left
           ·simp only [Act.put, x1_, x2_, x3_, i64_w, i32_w]
            rfl
           exact norm_ (by simp only [putAll, Act.put, x1_, x2_, x3_] <;> rfl) (hJ3_5_6_11 (gb293) _ ⟨hHeld, (bz_ BK264.out), (bz_ BK265.out), (bz_ BK278.out), (bz_ BK279.out), (bz_ BK293.out), GW293.out, GE293.out, NB264_293.out, NB293_264.out, NB265_293.out, NB293_265.out, NB278_293.out, NB293_278.out, NB279_293.out, NB293_279.out, (by repeat (first | (with_reducible first | exact HB.out | apply b1_ | apply b2_ | apply b3_ | apply c_ GE264 | apply c_ GE265 | apply c_ GE278 | apply c_ GE279 | apply c_ GE293) | exact HB.out))⟩)
          ·skip
           refine box_step ?hg (N := 11) ?hd (cs := #[.bool false, .int .i64 0, .int .i64 0]) (t := 24) ?hr ?_; (case hd => rfl); (case hg => rfl); (case hr => first | (go_simp; done) | (go_simp; rfl))
           intro gb292 hg w36 hbox hb
           have n0_ := A_ (blk_below (bz_ BK264.out) hb)
           have n1_ := A_ (blk_below (bz_ BK265.out) hb)
           have n2_ := A_ (blk_below (bz_ BK278.out) hb)
           have n3_ := A_ (blk_below (bz_ BK279.out) hb)
           have n4_ := A_ (blk_below (bz_ BK293.out) hb)
           have n5_ := A_ (below_step (by repeat (first | (with_reducible first | exact HB.out | apply b1_ | apply b2_ | apply b3_ | apply c_ GE264 | apply c_ GE265 | apply c_ GE278 | apply c_ GE279 | apply c_ GE293) | exact HB.out)) hb)
           have n6_ := A_ (hbox)
           have n7_ := A_ (ge_ hg)
           have GE292 := n7_
           have NB264_292 := A_ (nl_ hg (bz_ BK264.out))
           have NB292_264 := A_ (ng_ hg (bz_ BK264.out))
           have NB265_292 := A_ (nl_ hg (bz_ BK265.out))
           have NB292_265 := A_ (ng_ hg (bz_ BK265.out))
           have NB278_292 := A_ (nl_ hg (bz_ BK278.out))
           have NB292_278 := A_ (ng_ hg (bz_ BK278.out))
           have NB279_292 := A_ (nl_ hg (bz_ BK279.out))
           have NB292_279 := A_ (ng_ hg (bz_ BK279.out))
           have NB293_292 := A_ (nl_ hg (bz_ BK293.out))
           have NB292_293 := A_ (ng_ hg (bz_ BK293.out))
           clear BK264 BK265
           clear BK278 BK279
           clear BK293 HB
           have BK264 := n0_
           have BK265 := n1_
           have BK278 := n2_
           have BK279 := n3_
           have BK293 := n4_
           have HB := n5_
           have BK292 := n6_
           have GW292 := n7_
           clear n0_ n1_ n2_ n3_ n4_ n5_ n6_ n7_
           clear hb hbox hg
           refine hK.out _ _ ⟨bc_ BK264.out 0, bc_ BK264.out 1, bc_ BK264.out 2, bc_ BK265.out 0, bc_ BK265.out 1, bc_ BK265.out 2⟩ (fun hHeld => ?_)
           clear hK K
           refine norm_ (a' := ?_) ?_ ?_
           rotate_left
           ·show Act.put _ (some 11) _ = _
            simp only [Act.put, x1_, x2_, x3_, i64_w, i32_w]
            rfl
           exact norm_ (by simp only [putAll, Act.put, x1_, x2_, x3_] <;> rfl) (hJ3_5_10_11 (gb292, gb293) _ ⟨hHeld, (bz_ BK264.out), (bz_ BK265.out), (bz_ BK278.out), (bz_ BK279.out), (bz_ BK292.out), (bz_ BK293.out), GW292.out, GE292.out, NB264_292.out, NB292_264.out, NB265_292.out, NB292_265.out, NB278_292.out, NB292_278.out, NB279_292.out, NB292_279.out, NB293_292.out, NB292_293.out, GW293.out, GE293.out, NB264_293.out, NB293_264.out, NB265_293.out, NB293_265.out, NB278_293.out, NB293_278.out, NB279_293.out, NB293_279.out, (by repeat (first | (with_reducible first | exact HB.out | apply b1_ | apply b2_ | apply b3_ | apply c_ GE264 | apply c_ GE265 | apply c_ GE278 | apply c_ GE279 | apply c_ GE293 | apply c_ GE292) | exact HB.out))⟩)
        ·skip
         rintro gb292 w35 ⟨hS_, h0_, h1_, h2_, h3_, h4_, h5_, h6_, h7_, h8_, h9_, h10_, h11_, h12_, h13_, h14_, h15_⟩
         have n0_ : Aside0 (w35.heap[gb264]? = some (.cells #[.bool a2_0, .int .i64 a2_1, .int .i64 a2_2] 23 (0, 0))) := ⟨h0_⟩
         have n1_ : Aside0 (w35.heap[gb265]? = some (.cells #[.bool a3_0, .int .i64 a3_1, .int .i64 a3_2] 23 (0, 0))) := ⟨h1_⟩
         have n2_ : Aside0 (w35.heap[gb278]? = some (.cells #[.bool t272, .int .i64 t273, .int .i64 t274] 24 (0, 0))) := ⟨h2_⟩
         have n3_ : Aside0 (w35.heap[gb279]? = some (.cells #[.bool t275, .int .i64 t276, .int .i64 t277] 24 (0, 0))) := ⟨h3_⟩
         have n4_ : Aside0 (w35.heap[gb292]? = some (.cells #[.bool false, .int .i64 0, .int .i64 0] 24 (0, 0))) := ⟨h4_⟩
         have GW292 : Aside0 (w.heap.size ≤ gb292) := ⟨h5_⟩
         have GE292 : Aside0 (w.heap.size ≤ gb292) := ⟨h6_⟩
         have NB264_292 := A_ h7_
         have NB292_264 := A_ h8_
         have NB265_292 := A_ h9_
         have NB292_265 := A_ h10_
         have NB278_292 := A_ h11_
         have NB292_278 := A_ h12_
         have NB279_292 := A_ h13_
         have NB292_279 := A_ h14_
         have n15_ : Aside0 (Below w.heap.size w w35) := ⟨h15_⟩
         clear BK264 BK265
         clear BK278 BK279 HB
         clear h0_ h1_ h2_ h3_ h4_ h5_ h6_ h7_ h8_ h9_ h10_ h11_ h12_ h13_ h14_ h15_
         have BK264 := n0_
         have BK265 := n1_
         have BK278 := n2_
         have BK279 := n3_
         have BK292 := n4_
         have HB := n15_
         clear n0_ n1_ n2_ n3_ n4_ n15_
         have hHeld : w35.cell? ⟨gb264, 0, none⟩ = some (.bool a2_0) ∧ w35.cell? ⟨gb264, 1, none⟩ = some (.int .i64 a2_1) ∧ w35.cell? ⟨gb264, 2, none⟩ = some (.int .i64 a2_2) ∧ w35.cell? ⟨gb265, 0, none⟩ = some (.bool a3_0) ∧ w35.cell? ⟨gb265, 1, none⟩ = some (.int .i64 a3_1) ∧ w35.cell? ⟨gb265, 2, none⟩ = some (.int .i64 a3_2) := hS_
         refine norm_ (a' := ?_) ?_ ?_
         rotate_left
         ·simp only [putAll, Act.put, List.setIfInBounds_toArray, List.set_cons_zero, List.set_cons_succ]
          rfl
         refine two_ (i := 6) (j := 11) (Ni := some 30) (Nj := some 12) #[true, true, true, true, true, true, true, false, false, false, true, false, false, false] #[true, true, true, true, true, true, false, false, false, false, true, true, false, false] rfl rfl rfl rfl (two_of HT_.out (by kernel_rfl)) (by decide) (by decide) (fun K hK => ?_) (fun K hK => ?_)
         ·skip
          refine goes_ Try.func11 (by kernel_rfl) rfl #[.int .i64 a0, .int .i64 a1, .agg #[.bool t266, .int .i64 t267, .int .i64 t268], .agg #[.bool t269, .int .i64 t270, .int .i64 t271]] (by rfl) rfl rfl (by (try simp only [List.map_toArray, List.map_cons, List.map_nil]); first | done | rfl) ?_
          with_reducible refine (impl_RelMeet.calls k a0 a1 t266 t267 t268 t269 t270 t271 t286 t287 t288 t289 t290 t291 _ A10.out).mono ?_
          rintro e w36 ⟨rfl, hb⟩
          refine ⟨_, rfl, ?_⟩
          have n0_ := A_ (blk_below (bz_ BK264.out) hb)
          have n1_ := A_ (blk_below (bz_ BK265.out) hb)
          have n2_ := A_ (blk_below (bz_ BK278.out) hb)
          have n3_ := A_ (blk_below (bz_ BK279.out) hb)
          have n4_ := A_ (blk_below (bz_ BK292.out) hb)
          have n5_ := A_ (below_step (by repeat (first | (with_reducible first | exact HB.out | apply b1_ | apply b2_ | apply b3_ | apply c_ GE264 | apply c_ GE265 | apply c_ GE278 | apply c_ GE279 | apply c_ GE292) | exact HB.out)) hb)
          clear BK264 BK265
          clear BK278 BK279
          clear BK292 HB
          have BK264 := n0_
          have BK265 := n1_
          have BK278 := n2_
          have BK279 := n3_
          have BK292 := n4_
          have HB := n5_
          clear n0_ n1_ n2_ n3_ n4_ n5_
          (try clear hb)
          (try clear hb2)
          (try clear hk)
          (try clear hi)
          refine hK.out _ _ ⟨bc_ BK264.out 0, bc_ BK264.out 1, bc_ BK264.out 2, bc_ BK265.out 0, bc_ BK265.out 1, bc_ BK265.out 2⟩ (fun hHeld => ?_)
          clear hK K
          refine norm_ (a' := ?_) ?_ ?_
          rotate_left
          ·show Act.put _ (some 30) _ = _
           simp only [Act.put, x1_, x2_, x3_, i64_w, i32_w]
           rfl
          refine pure_ (i := 7) (N := some 23) (v := ?_) (a' := ?_) #[true, true, true, true, true, true, true, true, false, false, true, false, false, false] rfl rfl (any_of HT_.out (by kernel_rfl)) (fun _ _ _ h => h) (Or.inl ⟨by rfl, ?_⟩) ?_ ?_
          rotate_left
          ·intro w'
           go_simp
           with_reducible rfl
          rotate_left
          ·simp only [Act.put, x1_, x2_, x3_, i64_w, i32_w]
           rfl
          refine pure_ (i := 8) (N := some 31) (v := ?_) (a' := ?_) #[true, true, true, true, true, true, true, true, true, false, true, false, false, false] rfl rfl (any_of HT_.out (by kernel_rfl)) (fun _ _ _ h => h) (Or.inl ⟨by rfl, ?_⟩) ?_ ?_
          rotate_left
          ·intro w'
           go_simp
           with_reducible rfl
          rotate_left
          ·simp only [Act.put, x1_, x2_, x3_, i64_w, i32_w]
           rfl
          refine pure_ (i := 9) (N := some 32) (v := ?_) (a' := ?_) #[true, true, true, true, true, true, true, true, true, true, true, false, false, false] rfl rfl (any_of HT_.out (by kernel_rfl)) (fun _ _ _ h => h) (Or.inl ⟨by rfl, ?_⟩) ?_ ?_
          rotate_left
          ·intro w'
           go_simp
           with_reducible rfl
          rotate_left
          ·simp only [Act.put, x1_, x2_, x3_, i64_w, i32_w]
           rfl
          exact norm_ (by simp only [putAll, Act.put, x1_, x2_, x3_] <;> rfl) (hJ3_5_6_10 (gb292) _ ⟨hHeld, (bz_ BK264.out), (bz_ BK265.out), (bz_ BK278.out), (bz_ BK279.out), (bz_ BK292.out), GW292.out, GE292.out, NB264_292.out, NB292_264.out, NB265_292.out, NB292_265.out, NB278_292.out, NB292_278.out, NB279_292.out, NB292_279.out, (by repeat (first | (with_reducible first | exact HB.out | apply b1_ | apply b2_ | apply b3_ | apply c_ GE264 | apply c_ GE265 | apply c_ GE278 | apply c_ GE279 | apply c_ GE292) | exact HB.out))⟩)
         ·skip
          refine box_step ?hg (N := 12) ?hd (cs := #[.bool false, .int .i64 0, .int .i64 0]) (t := 24) ?hr ?_; (case hd => rfl); (case hg => rfl); (case hr => first | (go_simp; done) | (go_simp; rfl))
          intro gb293 hg w36 hbox hb
          have n0_ := A_ (blk_below (bz_ BK264.out) hb)
          have n1_ := A_ (blk_below (bz_ BK265.out) hb)
          have n2_ := A_ (blk_below (bz_ BK278.out) hb)
          have n3_ := A_ (blk_below (bz_ BK279.out) hb)
          have n4_ := A_ (blk_below (bz_ BK292.out) hb)
          have n5_ := A_ (below_step (by repeat (first | (with_reducible first | exact HB.out | apply b1_ | apply b2_ | apply b3_ | apply c_ GE264 | apply c_ GE265 | apply c_ GE278 | apply c_ GE279 | apply c_ GE292) | exact HB.out)) hb)
          have n6_ := A_ (hbox)
          have n7_ := A_ (ge_ hg)
          have GE293 := n7_
          have NB264_293 := A_ (nl_ hg (bz_ BK264.out))
          have NB293_264 := A_ (ng_ hg (bz_ BK264.out))
          have NB265_293 := A_ (nl_ hg (bz_ BK265.out))
          have NB293_265 := A_ (ng_ hg (bz_ BK265.out))
          have NB278_293 := A_ (nl_ hg (bz_ BK278.out))
          have NB293_278 := A_ (ng_ hg (bz_ BK278.out))
          have NB279_293 := A_ (nl_ hg (bz_ BK279.out))
          have NB293_279 := A_ (ng_ hg (bz_ BK279.out))
          have NB292_293 := A_ (nl_ hg (bz_ BK292.out))
          have NB293_292 := A_ (ng_ hg (bz_ BK292.out))
          clear BK264 BK265
          clear BK278 BK279
          clear BK292 HB
          have BK264 := n0_
          have BK265 := n1_
          have BK278 := n2_
          have BK279 := n3_
          have BK292 := n4_
          have HB := n5_
          have BK293 := n6_
          have GW293 := n7_
          clear n0_ n1_ n2_ n3_ n4_ n5_ n6_ n7_
          clear hb hbox hg
          refine hK.out _ _ ⟨bc_ BK264.out 0, bc_ BK264.out 1, bc_ BK264.out 2, bc_ BK265.out 0, bc_ BK265.out 1, bc_ BK265.out 2⟩ (fun hHeld => ?_)
          clear hK K
          refine norm_ (a' := ?_) ?_ ?_
          rotate_left
          ·show Act.put _ (some 12) _ = _
           simp only [Act.put, x1_, x2_, x3_, i64_w, i32_w]
           rfl
          exact norm_ (by simp only [putAll, Act.put, x1_, x2_, x3_] <;> rfl) (hJ3_5_10_11 (gb292, gb293) _ ⟨hHeld, (bz_ BK264.out), (bz_ BK265.out), (bz_ BK278.out), (bz_ BK279.out), (bz_ BK292.out), (bz_ BK293.out), GW292.out, GE292.out, NB264_292.out, NB292_264.out, NB265_292.out, NB292_265.out, NB278_292.out, NB292_278.out, NB279_292.out, NB292_279.out, NB293_292.out, NB292_293.out, GW293.out, GE293.out, NB264_293.out, NB293_264.out, NB265_293.out, NB293_265.out, NB278_293.out, NB293_278.out, NB279_293.out, NB293_279.out, (by repeat (first | (with_reducible first | exact HB.out | apply b1_ | apply b2_ | apply b3_ | apply c_ GE264 | apply c_ GE265 | apply c_ GE278 | apply c_ GE279 | apply c_ GE292 | apply c_ GE293) | exact HB.out))⟩)
       ·skip
        rintro _ w35 ⟨hS_, h0_, h1_, h2_, h3_, h4_⟩
        have n0_ : Aside0 (w35.heap[gb264]? = some (.cells #[.bool a2_0, .int .i64 a2_1, .int .i64 a2_2] 23 (0, 0))) := ⟨h0_⟩
        have n1_ : Aside0 (w35.heap[gb265]? = some (.cells #[.bool a3_0, .int .i64 a3_1, .int .i64 a3_2] 23 (0, 0))) := ⟨h1_⟩
        have n2_ : Aside0 (w35.heap[gb278]? = some (.cells #[.bool t272, .int .i64 t273, .int .i64 t274] 24 (0, 0))) := ⟨h2_⟩
        have n3_ : Aside0 (w35.heap[gb279]? = some (.cells #[.bool t275, .int .i64 t276, .int .i64 t277] 24 (0, 0))) := ⟨h3_⟩
        have n4_ : Aside0 (Below w.heap.size w w35) := ⟨h4_⟩
        clear BK264 BK265
        clear BK278 BK279 HB
        clear h0_ h1_ h2_ h3_ h4_
        have BK264 := n0_
        have BK265 := n1_
        have BK278 := n2_
        have BK279 := n3_
        have HB := n4_
        clear n0_ n1_ n2_ n3_ n4_
        have hHeld : w35.cell? ⟨gb264, 0, none⟩ = some (.bool a2_0) ∧ w35.cell? ⟨gb264, 1, none⟩ = some (.int .i64 a2_1) ∧ w35.cell? ⟨gb264, 2, none⟩ = some (.int .i64 a2_2) ∧ w35.cell? ⟨gb265, 0, none⟩ = some (.bool a3_0) ∧ w35.cell? ⟨gb265, 1, none⟩ = some (.int .i64 a3_1) ∧ w35.cell? ⟨gb265, 2, none⟩ = some (.int .i64 a3_2) := hS_
        refine norm_ (a' := ?_) ?_ ?_
        rotate_left
        ·simp only [putAll, Act.put, List.setIfInBounds_toArray, List.set_cons_zero, List.set_cons_succ]
         rfl
        refine two_ (i := 10) (j := 11) (Ni := some 11) (Nj := some 12) #[true, true, true, true, true, true, true, true, true, true, true, false, false, false] #[true, true, true, true, true, true, true, true, true, true, false, true, false, false] rfl rfl rfl rfl (two_of HT_.out (by kernel_rfl)) (by decide) (by decide) (fun K hK => ?_) (fun K hK => ?_)
        ·skip
         refine box_step ?hg (N := 11) ?hd (cs := #[.bool false, .int .i64 0, .int .i64 0]) (t := 24) ?hr ?_; (case hd => rfl); (case hg => rfl); (case hr => first | (go_simp; done) | (go_simp; rfl))
         intro gb292 hg w36 hbox hb
         have n0_ := A_ (blk_below (bz_ BK264.out) hb)
         have n1_ := A_ (blk_below (bz_ BK265.out) hb)
         have n2_ := A_ (blk_below (bz_ BK278.out) hb)
         have n3_ := A_ (blk_below (bz_ BK279.out) hb)
         have n4_ := A_ (below_step (by repeat (first | (with_reducible first | exact HB.out | apply b1_ | apply b2_ | apply b3_ | apply c_ GE264 | apply c_ GE265 | apply c_ GE278 | apply c_ GE279) | exact HB.out)) hb)
         have n5_ := A_ (hbox)
         have n6_ := A_ (ge_ hg)
         have GE292 := n6_
         have NB264_292 := A_ (nl_ hg (bz_ BK264.out))
         have NB292_264 := A_ (ng_ hg (bz_ BK264.out))
         have NB265_292 := A_ (nl_ hg (bz_ BK265.out))
         have NB292_265 := A_ (ng_ hg (bz_ BK265.out))
         have NB278_292 := A_ (nl_ hg (bz_ BK278.out))
         have NB292_278 := A_ (ng_ hg (bz_ BK278.out))
         have NB279_292 := A_ (nl_ hg (bz_ BK279.out))
         have NB292_279 := A_ (ng_ hg (bz_ BK279.out))
         clear BK264 BK265
         clear BK278 BK279 HB
         have BK264 := n0_
         have BK265 := n1_
         have BK278 := n2_
         have BK279 := n3_
         have HB := n4_
         have BK292 := n5_
         have GW292 := n6_
         clear n0_ n1_ n2_ n3_ n4_ n5_ n6_
         clear hb hbox hg
         refine hK.out _ _ ⟨bc_ BK264.out 0, bc_ BK264.out 1, bc_ BK264.out 2, bc_ BK265.out 0, bc_ BK265.out 1, bc_ BK265.out 2⟩ (fun hHeld => ?_)
         clear hK K
         refine norm_ (a' := ?_) ?_ ?_
         rotate_left
         ·show Act.put _ (some 11) _ = _
          simp only [Act.put, x1_, x2_, x3_, i64_w, i32_w]
          rfl
         exact norm_ (by simp only [putAll, Act.put, x1_, x2_, x3_] <;> rfl) (hJ3_5_6_10 (gb292) _ ⟨hHeld, (bz_ BK264.out), (bz_ BK265.out), (bz_ BK278.out), (bz_ BK279.out), (bz_ BK292.out), GW292.out, GE292.out, NB264_292.out, NB292_264.out, NB265_292.out, NB292_265.out, NB278_292.out, NB292_278.out, NB279_292.out, NB292_279.out, (by repeat (first | (with_reducible first | exact HB.out | apply b1_ | apply b2_ | apply b3_ | apply c_ GE264 | apply c_ GE265 | apply c_ GE278 | apply c_ GE279 | apply c_ GE292) | exact HB.out))⟩)
        ·skip
         refine box_step ?hg (N := 12) ?hd (cs := #[.bool false, .int .i64 0, .int .i64 0]) (t := 24) ?hr ?_; (case hd => rfl); (case hg => rfl); (case hr => first | (go_simp; done) | (go_simp; rfl))
         intro gb293 hg w36 hbox hb
         have n0_ := A_ (blk_below (bz_ BK264.out) hb)
         have n1_ := A_ (blk_below (bz_ BK265.out) hb)
         have n2_ := A_ (blk_below (bz_ BK278.out) hb)
         have n3_ := A_ (blk_below (bz_ BK279.out) hb)
         have n4_ := A_ (below_step (by repeat (first | (with_reducible first | exact HB.out | apply b1_ | apply b2_ | apply b3_ | apply c_ GE264 | apply c_ GE265 | apply c_ GE278 | apply c_ GE279) | exact HB.out)) hb)
         have n5_ := A_ (hbox)
         have n6_ := A_ (ge_ hg)
         have GE293 := n6_
         have NB264_293 := A_ (nl_ hg (bz_ BK264.out))
         have NB293_264 := A_ (ng_ hg (bz_ BK264.out))
         have NB265_293 := A_ (nl_ hg (bz_ BK265.out))
         have NB293_265 := A_ (ng_ hg (bz_ BK265.out))
         have NB278_293 := A_ (nl_ hg (bz_ BK278.out))
         have NB293_278 := A_ (ng_ hg (bz_ BK278.out))
         have NB279_293 := A_ (nl_ hg (bz_ BK279.out))
         have NB293_279 := A_ (ng_ hg (bz_ BK279.out))
         clear BK264 BK265
         clear BK278 BK279 HB
         have BK264 := n0_
         have BK265 := n1_
         have BK278 := n2_
         have BK279 := n3_
         have HB := n4_
         have BK293 := n5_
         have GW293 := n6_
         clear n0_ n1_ n2_ n3_ n4_ n5_ n6_
         clear hb hbox hg
         refine hK.out _ _ ⟨bc_ BK264.out 0, bc_ BK264.out 1, bc_ BK264.out 2, bc_ BK265.out 0, bc_ BK265.out 1, bc_ BK265.out 2⟩ (fun hHeld => ?_)
         clear hK K
         refine norm_ (a' := ?_) ?_ ?_
         rotate_left
         ·show Act.put _ (some 12) _ = _
          simp only [Act.put, x1_, x2_, x3_, i64_w, i32_w]
          rfl
         exact norm_ (by simp only [putAll, Act.put, x1_, x2_, x3_] <;> rfl) (hJ3_5_6_11 (gb293) _ ⟨hHeld, (bz_ BK264.out), (bz_ BK265.out), (bz_ BK278.out), (bz_ BK279.out), (bz_ BK293.out), GW293.out, GE293.out, NB264_293.out, NB293_264.out, NB265_293.out, NB293_265.out, NB278_293.out, NB293_278.out, NB279_293.out, NB293_279.out, (by repeat (first | (with_reducible first | exact HB.out | apply b1_ | apply b2_ | apply b3_ | apply c_ GE264 | apply c_ GE265 | apply c_ GE278 | apply c_ GE279 | apply c_ GE293) | exact HB.out))⟩)
      ·skip
       rintro ⟨gb292, gb293⟩ w36 ⟨hS_, h0_, h1_, h2_, h3_, h4_, h5_, h6_, h7_, h8_, h9_, h10_, h11_, h12_, h13_, h14_, h15_, h16_, h17_, h18_, h19_, h20_, h21_, h22_, h23_, h24_, h25_, h26_, h27_, h28_⟩
       have n0_ : Aside0 (w36.heap[gb264]? = some (.cells #[.bool a2_0, .int .i64 a2_1, .int .i64 a2_2] 23 (0, 0))) := ⟨h0_⟩
       have n1_ : Aside0 (w36.heap[gb265]? = some (.cells #[.bool a3_0, .int .i64 a3_1, .int .i64 a3_2] 23 (0, 0))) := ⟨h1_⟩
       have n2_ : Aside0 (w36.heap[gb278]? = some (.cells #[.bool t272, .int .i64 t273, .int .i64 t274] 24 (0, 0))) := ⟨h2_⟩
       have n3_ : Aside0 (w36.heap[gb279]? = some (.cells #[.bool t275, .int .i64 t276, .int .i64 t277] 24 (0, 0))) := ⟨h3_⟩
       have n4_ : Aside0 (w36.heap[gb292]? = some (.cells #[.bool false, .int .i64 0, .int .i64 0] 24 (0, 0))) := ⟨h4_⟩
       have n5_ : Aside0 (w36.heap[gb293]? = some (.cells #[.bool false, .int .i64 0, .int .i64 0] 24 (0, 0))) := ⟨h5_⟩
       have GW292 : Aside0 (w.heap.size ≤ gb292) := ⟨h6_⟩
       have GE292 : Aside0 (w.heap.size ≤ gb292) := ⟨h7_⟩
       have NB264_292 := A_ h8_
       have NB292_264 := A_ h9_
       have NB265_292 := A_ h10_
       have NB292_265 := A_ h11_
       have NB278_292 := A_ h12_
       have NB292_278 := A_ h13_
       have NB279_292 := A_ h14_
       have NB292_279 := A_ h15_
       have NB293_292 := A_ h16_
       have NB292_293 := A_ h17_
       have GW293 : Aside0 (w.heap.size ≤ gb293) := ⟨h18_⟩
       have GE293 : Aside0 (w.heap.size ≤ gb293) := ⟨h19_⟩
       have NB264_293 := A_ h20_
       have NB293_264 := A_ h21_
       have NB265_293 := A_ h22_
       have NB293_265 := A_ h23_
       have NB278_293 := A_ h24_
       have NB293_278 := A_ h25_
       have NB279_293 := A_ h26_
       have NB293_279 := A_ h27_
       have n28_ : Aside0 (Below w.heap.size w w36) := ⟨h28_⟩
       clear BK264 BK265
       clear BK278 BK279 HB
       clear h0_ h1_ h2_ h3_ h4_ h5_ h6_ h7_ h8_ h9_ h10_ h11_ h12_ h13_ h14_ h15_ h16_ h17_ h18_ h19_ h20_ h21_ h22_ h23_ h24_ h25_ h26_ h27_ h28_
       have BK264 := n0_
       have BK265 := n1_
       have BK278 := n2_
       have BK279 := n3_
       have BK292 := n4_
       have BK293 := n5_
       have HB := n28_
       clear n0_ n1_ n2_ n3_ n4_ n5_ n28_
       have hHeld : w36.cell? ⟨gb264, 0, none⟩ = some (.bool a2_0) ∧ w36.cell? ⟨gb264, 1, none⟩ = some (.int .i64 a2_1) ∧ w36.cell? ⟨gb264, 2, none⟩ = some (.int .i64 a2_2) ∧ w36.cell? ⟨gb265, 0, none⟩ = some (.bool a3_0) ∧ w36.cell? ⟨gb265, 1, none⟩ = some (.int .i64 a3_1) ∧ w36.cell? ⟨gb265, 2, none⟩ = some (.int .i64 a3_2) := hS_
       refine norm_ (a' := ?_) ?_ ?_
       rotate_left
       ·simp only [putAll, Act.put, List.setIfInBounds_toArray, List.set_cons_zero, List.set_cons_succ]
        rfl
       refine one_ (i := 6) (N := some 30) #[true, true, true, true, true, true, true, false, false, false, true, true, false, false] rfl rfl (one_of HT_.out (by kernel_rfl)) (by decide) (fun K hK => ?_)
       refine goes_ Try.func11 (by kernel_rfl) rfl #[.int .i64 a0, .int .i64 a1, .agg #[.bool t266, .int .i64 t267, .int .i64 t268], .agg #[.bool t269, .int .i64 t270, .int .i64 t271]] (by rfl) rfl rfl (by (try simp only [List.map_toArray, List.map_cons, List.map_nil]); first | done | rfl) ?_
       with_reducible refine (impl_RelMeet.calls k a0 a1 t266 t267 t268 t269 t270 t271 t286 t287 t288 t289 t290 t291 _ A10.out).mono ?_
       rintro e w37 ⟨rfl, hb⟩
       refine ⟨_, rfl, ?_⟩
       have n0_ := A_ (blk_below (bz_ BK264.out) hb)
       have n1_ := A_ (blk_below (bz_ BK265.out) hb)
       have n2_ := A_ (blk_below (bz_ BK278.out) hb)
       have n3_ := A_ (blk_below (bz_ BK279.out) hb)
       have n4_ := A_ (blk_below (bz_ BK292.out) hb)
       have n5_ := A_ (blk_below (bz_ BK293.out) hb)
       have n6_ := A_ (below_step (by repeat (first | (with_reducible first | exact HB.out | apply b1_ | apply b2_ | apply b3_ | apply c_ GE264 | apply c_ GE265 | apply c_ GE278 | apply c_ GE279 | apply c_ GE292 | apply c_ GE293) | exact HB.out)) hb)
       clear BK264 BK265
       clear BK278 BK279
       clear BK292 BK293 HB
       have BK264 := n0_
       have BK265 := n1_
       have BK278 := n2_
       have BK279 := n3_
       have BK292 := n4_
       have BK293 := n5_
       have HB := n6_
       clear n0_ n1_ n2_ n3_ n4_ n5_ n6_
       (try clear hb)
       (try clear hb2)
       (try clear hk)
       (try clear hi)
       refine hK.out _ _ ⟨bc_ BK264.out 0, bc_ BK264.out 1, bc_ BK264.out 2, bc_ BK265.out 0, bc_ BK265.out 1, bc_ BK265.out 2⟩ (fun hHeld => ?_)
       clear hK K
       refine norm_ (a' := ?_) ?_ ?_
       rotate_left
       ·show Act.put _ (some 30) _ = _
        simp only [Act.put, x1_, x2_, x3_, i64_w, i32_w]
        rfl
       refine pure_ (i := 7) (N := some 23) (v := ?_) (a' := ?_) #[true, true, true, true, true, true, true, true, false, false, true, true, false, false] rfl rfl (any_of HT_.out (by kernel_rfl)) (fun _ _ _ h => h) (Or.inl ⟨by rfl, ?_⟩) ?_ ?_
       rotate_left
       ·intro w'
        go_simp
        with_reducible rfl
       rotate_left
       ·simp only [Act.put, x1_, x2_, x3_, i64_w, i32_w]
        rfl
       refine pure_ (i := 8) (N := some 31) (v := ?_) (a' := ?_) #[true, true, true, true, true, true, true, true, true, false, true, true, false, false] rfl rfl (any_of HT_.out (by kernel_rfl)) (fun _ _ _ h => h) (Or.inl ⟨by rfl, ?_⟩) ?_ ?_
       rotate_left
       ·intro w'
        go_simp
        with_reducible rfl
       rotate_left
       ·simp only [Act.put, x1_, x2_, x3_, i64_w, i32_w]
        rfl
       refine pure_ (i := 9) (N := some 32) (v := ?_) (a' := ?_) #[true, true, true, true, true, true, true, true, true, true, true, true, false, false] rfl rfl (any_of HT_.out (by kernel_rfl)) (fun _ _ _ h => h) (Or.inl ⟨by rfl, ?_⟩) ?_ ?_
       rotate_left
       ·intro w'
        go_simp
        with_reducible rfl
       rotate_left
       ·simp only [Act.put, x1_, x2_, x3_, i64_w, i32_w]
        rfl
       exact norm_ (by simp only [putAll, Act.put, x1_, x2_, x3_] <;> rfl) (hJ3_5_6_10_11 (gb292, gb293) _ ⟨hHeld, (bz_ BK264.out), (bz_ BK265.out), (bz_ BK278.out), (bz_ BK279.out), (bz_ BK292.out), (bz_ BK293.out), GW292.out, GE292.out, NB264_292.out, NB292_264.out, NB265_292.out, NB292_265.out, NB278_292.out, NB292_278.out, NB279_292.out, NB292_279.out, NB293_292.out, NB292_293.out, GW293.out, GE293.out, NB264_293.out, NB293_264.out, NB265_293.out, NB293_265.out, NB278_293.out, NB293_278.out, NB279_293.out, NB293_279.out, (by repeat (first | (with_reducible first | exact HB.out | apply b1_ | apply b2_ | apply b3_ | apply c_ GE264 | apply c_ GE265 | apply c_ GE278 | apply c_ GE279 | apply c_ GE292 | apply c_ GE293) | exact HB.out))⟩)
     ·skip
      rintro gb293 w36 ⟨hS_, h0_, h1_, h2_, h3_, h4_, h5_, h6_, h7_, h8_, h9_, h10_, h11_, h12_, h13_, h14_, h15_⟩
      have n0_ : Aside0 (w36.heap[gb264]? = some (.cells #[.bool a2_0, .int .i64 a2_1, .int .i64 a2_2] 23 (0, 0))) := ⟨h0_⟩
      have n1_ : Aside0 (w36.heap[gb265]? = some (.cells #[.bool a3_0, .int .i64 a3_1, .int .i64 a3_2] 23 (0, 0))) := ⟨h1_⟩
      have n2_ : Aside0 (w36.heap[gb278]? = some (.cells #[.bool t272, .int .i64 t273, .int .i64 t274] 24 (0, 0))) := ⟨h2_⟩
      have n3_ : Aside0 (w36.heap[gb279]? = some (.cells #[.bool t275, .int .i64 t276, .int .i64 t277] 24 (0, 0))) := ⟨h3_⟩
      have n4_ : Aside0 (w36.heap[gb293]? = some (.cells #[.bool false, .int .i64 0, .int .i64 0] 24 (0, 0))) := ⟨h4_⟩
      have GW293 : Aside0 (w.heap.size ≤ gb293) := ⟨h5_⟩
      have GE293 : Aside0 (w.heap.size ≤ gb293) := ⟨h6_⟩
      have NB264_293 := A_ h7_
      have NB293_264 := A_ h8_
      have NB265_293 := A_ h9_
      have NB293_265 := A_ h10_
      have NB278_293 := A_ h11_
      have NB293_278 := A_ h12_
      have NB279_293 := A_ h13_
      have NB293_279 := A_ h14_
      have n15_ : Aside0 (Below w.heap.size w w36) := ⟨h15_⟩
      clear BK264 BK265
      clear BK278 BK279 HB
      clear h0_ h1_ h2_ h3_ h4_ h5_ h6_ h7_ h8_ h9_ h10_ h11_ h12_ h13_ h14_ h15_
      have BK264 := n0_
      have BK265 := n1_
      have BK278 := n2_
      have BK279 := n3_
      have BK293 := n4_
      have HB := n15_
      clear n0_ n1_ n2_ n3_ n4_ n15_
      have hHeld : w36.cell? ⟨gb264, 0, none⟩ = some (.bool a2_0) ∧ w36.cell? ⟨gb264, 1, none⟩ = some (.int .i64 a2_1) ∧ w36.cell? ⟨gb264, 2, none⟩ = some (.int .i64 a2_2) ∧ w36.cell? ⟨gb265, 0, none⟩ = some (.bool a3_0) ∧ w36.cell? ⟨gb265, 1, none⟩ = some (.int .i64 a3_1) ∧ w36.cell? ⟨gb265, 2, none⟩ = some (.int .i64 a3_2) := hS_
      refine norm_ (a' := ?_) ?_ ?_
      rotate_left
      ·simp only [putAll, Act.put, List.setIfInBounds_toArray, List.set_cons_zero, List.set_cons_succ]
       rfl
      refine one_ (i := 10) (N := some 11) #[true, true, true, true, true, true, true, true, true, true, true, true, false, false] rfl rfl (one_of HT_.out (by kernel_rfl)) (by decide) (fun K hK => ?_)
      refine box_step ?hg (N := 11) ?hd (cs := #[.bool false, .int .i64 0, .int .i64 0]) (t := 24) ?hr ?_; (case hd => rfl); (case hg => rfl); (case hr => first | (go_simp; done) | (go_simp; rfl))
      intro gb292 hg w37 hbox hb
      have n0_ := A_ (blk_below (bz_ BK264.out) hb)
      have n1_ := A_ (blk_below (bz_ BK265.out) hb)
      have n2_ := A_ (blk_below (bz_ BK278.out) hb)
      have n3_ := A_ (blk_below (bz_ BK279.out) hb)
      have n4_ := A_ (blk_below (bz_ BK293.out) hb)
      have n5_ := A_ (below_step (by repeat (first | (with_reducible first | exact HB.out | apply b1_ | apply b2_ | apply b3_ | apply c_ GE264 | apply c_ GE265 | apply c_ GE278 | apply c_ GE279 | apply c_ GE293) | exact HB.out)) hb)
      have n6_ := A_ (hbox)
      have n7_ := A_ (ge_ hg)
      have GE292 := n7_
      have NB264_292 := A_ (nl_ hg (bz_ BK264.out))
      have NB292_264 := A_ (ng_ hg (bz_ BK264.out))
      have NB265_292 := A_ (nl_ hg (bz_ BK265.out))
      have NB292_265 := A_ (ng_ hg (bz_ BK265.out))
      have NB278_292 := A_ (nl_ hg (bz_ BK278.out))
      have NB292_278 := A_ (ng_ hg (bz_ BK278.out))
      have NB279_292 := A_ (nl_ hg (bz_ BK279.out))
      have NB292_279 := A_ (ng_ hg (bz_ BK279.out))
      have NB293_292 := A_ (nl_ hg (bz_ BK293.out))
      have NB292_293 := A_ (ng_ hg (bz_ BK293.out))
      clear BK264 BK265
      clear BK278 BK279
      clear BK293 HB
      have BK264 := n0_
      have BK265 := n1_
      have BK278 := n2_
      have BK279 := n3_
      have BK293 := n4_
      have HB := n5_
      have BK292 := n6_
      have GW292 := n7_
      clear n0_ n1_ n2_ n3_ n4_ n5_ n6_ n7_
      clear hb hbox hg
      refine hK.out _ _ ⟨bc_ BK264.out 0, bc_ BK264.out 1, bc_ BK264.out 2, bc_ BK265.out 0, bc_ BK265.out 1, bc_ BK265.out 2⟩ (fun hHeld => ?_)
      clear hK K
      refine norm_ (a' := ?_) ?_ ?_
      rotate_left
      ·show Act.put _ (some 11) _ = _
       simp only [Act.put, x1_, x2_, x3_, i64_w, i32_w]
       rfl
      exact norm_ (by simp only [putAll, Act.put, x1_, x2_, x3_] <;> rfl) (hJ3_5_6_10_11 (gb292, gb293) _ ⟨hHeld, (bz_ BK264.out), (bz_ BK265.out), (bz_ BK278.out), (bz_ BK279.out), (bz_ BK292.out), (bz_ BK293.out), GW292.out, GE292.out, NB264_292.out, NB292_264.out, NB265_292.out, NB292_265.out, NB278_292.out, NB292_278.out, NB279_292.out, NB292_279.out, NB293_292.out, NB292_293.out, GW293.out, GE293.out, NB264_293.out, NB293_264.out, NB265_293.out, NB293_265.out, NB278_293.out, NB293_278.out, NB279_293.out, NB293_279.out, (by repeat (first | (with_reducible first | exact HB.out | apply b1_ | apply b2_ | apply b3_ | apply c_ GE264 | apply c_ GE265 | apply c_ GE278 | apply c_ GE279 | apply c_ GE293 | apply c_ GE292) | exact HB.out))⟩)
    ·skip
     rintro gb292 w36 ⟨hS_, h0_, h1_, h2_, h3_, h4_, h5_, h6_, h7_, h8_, h9_, h10_, h11_, h12_, h13_, h14_, h15_⟩
     have n0_ : Aside0 (w36.heap[gb264]? = some (.cells #[.bool a2_0, .int .i64 a2_1, .int .i64 a2_2] 23 (0, 0))) := ⟨h0_⟩
     have n1_ : Aside0 (w36.heap[gb265]? = some (.cells #[.bool a3_0, .int .i64 a3_1, .int .i64 a3_2] 23 (0, 0))) := ⟨h1_⟩
     have n2_ : Aside0 (w36.heap[gb278]? = some (.cells #[.bool t272, .int .i64 t273, .int .i64 t274] 24 (0, 0))) := ⟨h2_⟩
     have n3_ : Aside0 (w36.heap[gb279]? = some (.cells #[.bool t275, .int .i64 t276, .int .i64 t277] 24 (0, 0))) := ⟨h3_⟩
     have n4_ : Aside0 (w36.heap[gb292]? = some (.cells #[.bool false, .int .i64 0, .int .i64 0] 24 (0, 0))) := ⟨h4_⟩
     have GW292 : Aside0 (w.heap.size ≤ gb292) := ⟨h5_⟩
     have GE292 : Aside0 (w.heap.size ≤ gb292) := ⟨h6_⟩
     have NB264_292 := A_ h7_
     have NB292_264 := A_ h8_
     have NB265_292 := A_ h9_
     have NB292_265 := A_ h10_
     have NB278_292 := A_ h11_
     have NB292_278 := A_ h12_
     have NB279_292 := A_ h13_
     have NB292_279 := A_ h14_
     have n15_ : Aside0 (Below w.heap.size w w36) := ⟨h15_⟩
     clear BK264 BK265
     clear BK278 BK279 HB
     clear h0_ h1_ h2_ h3_ h4_ h5_ h6_ h7_ h8_ h9_ h10_ h11_ h12_ h13_ h14_ h15_
     have BK264 := n0_
     have BK265 := n1_
     have BK278 := n2_
     have BK279 := n3_
     have BK292 := n4_
     have HB := n15_
     clear n0_ n1_ n2_ n3_ n4_ n15_
     have hHeld : w36.cell? ⟨gb264, 0, none⟩ = some (.bool a2_0) ∧ w36.cell? ⟨gb264, 1, none⟩ = some (.int .i64 a2_1) ∧ w36.cell? ⟨gb264, 2, none⟩ = some (.int .i64 a2_2) ∧ w36.cell? ⟨gb265, 0, none⟩ = some (.bool a3_0) ∧ w36.cell? ⟨gb265, 1, none⟩ = some (.int .i64 a3_1) ∧ w36.cell? ⟨gb265, 2, none⟩ = some (.int .i64 a3_2) := hS_
     refine norm_ (a' := ?_) ?_ ?_
     rotate_left
     ·simp only [putAll, Act.put, List.setIfInBounds_toArray, List.set_cons_zero, List.set_cons_succ]
      rfl
     refine one_ (i := 11) (N := some 12) #[true, true, true, true, true, true, true, true, true, true, true, true, false, false] rfl rfl (one_of HT_.out (by kernel_rfl)) (by decide) (fun K hK => ?_)
     refine box_step ?hg (N := 12) ?hd (cs := #[.bool false, .int .i64 0, .int .i64 0]) (t := 24) ?hr ?_; (case hd => rfl); (case hg => rfl); (case hr => first | (go_simp; done) | (go_simp; rfl))
     intro gb293 hg w37 hbox hb
     have n0_ := A_ (blk_below (bz_ BK264.out) hb)
     have n1_ := A_ (blk_below (bz_ BK265.out) hb)
     have n2_ := A_ (blk_below (bz_ BK278.out) hb)
     have n3_ := A_ (blk_below (bz_ BK279.out) hb)
     have n4_ := A_ (blk_below (bz_ BK292.out) hb)
     have n5_ := A_ (below_step (by repeat (first | (with_reducible first | exact HB.out | apply b1_ | apply b2_ | apply b3_ | apply c_ GE264 | apply c_ GE265 | apply c_ GE278 | apply c_ GE279 | apply c_ GE292) | exact HB.out)) hb)
     have n6_ := A_ (hbox)
     have n7_ := A_ (ge_ hg)
     have GE293 := n7_
     have NB264_293 := A_ (nl_ hg (bz_ BK264.out))
     have NB293_264 := A_ (ng_ hg (bz_ BK264.out))
     have NB265_293 := A_ (nl_ hg (bz_ BK265.out))
     have NB293_265 := A_ (ng_ hg (bz_ BK265.out))
     have NB278_293 := A_ (nl_ hg (bz_ BK278.out))
     have NB293_278 := A_ (ng_ hg (bz_ BK278.out))
     have NB279_293 := A_ (nl_ hg (bz_ BK279.out))
     have NB293_279 := A_ (ng_ hg (bz_ BK279.out))
     have NB292_293 := A_ (nl_ hg (bz_ BK292.out))
     have NB293_292 := A_ (ng_ hg (bz_ BK292.out))
     clear BK264 BK265
     clear BK278 BK279
     clear BK292 HB
     have BK264 := n0_
     have BK265 := n1_
     have BK278 := n2_
     have BK279 := n3_
     have BK292 := n4_
     have HB := n5_
     have BK293 := n6_
     have GW293 := n7_
     clear n0_ n1_ n2_ n3_ n4_ n5_ n6_ n7_
     clear hb hbox hg
     refine hK.out _ _ ⟨bc_ BK264.out 0, bc_ BK264.out 1, bc_ BK264.out 2, bc_ BK265.out 0, bc_ BK265.out 1, bc_ BK265.out 2⟩ (fun hHeld => ?_)
     clear hK K
     refine norm_ (a' := ?_) ?_ ?_
     rotate_left
     ·show Act.put _ (some 12) _ = _
      simp only [Act.put, x1_, x2_, x3_, i64_w, i32_w]
      rfl
     exact norm_ (by simp only [putAll, Act.put, x1_, x2_, x3_] <;> rfl) (hJ3_5_6_10_11 (gb292, gb293) _ ⟨hHeld, (bz_ BK264.out), (bz_ BK265.out), (bz_ BK278.out), (bz_ BK279.out), (bz_ BK292.out), (bz_ BK293.out), GW292.out, GE292.out, NB264_292.out, NB292_264.out, NB265_292.out, NB292_265.out, NB278_292.out, NB292_278.out, NB279_292.out, NB292_279.out, NB293_292.out, NB292_293.out, GW293.out, GE293.out, NB264_293.out, NB293_264.out, NB265_293.out, NB293_265.out, NB278_293.out, NB293_278.out, NB279_293.out, NB293_279.out, (by repeat (first | (with_reducible first | exact HB.out | apply b1_ | apply b2_ | apply b3_ | apply c_ GE264 | apply c_ GE265 | apply c_ GE278 | apply c_ GE279 | apply c_ GE292 | apply c_ GE293) | exact HB.out))⟩)
   rintro ⟨gb292, gb293⟩ w37 ⟨hS_, h0_, h1_, h2_, h3_, h4_, h5_, h6_, h7_, h8_, h9_, h10_, h11_, h12_, h13_, h14_, h15_, h16_, h17_, h18_, h19_, h20_, h21_, h22_, h23_, h24_, h25_, h26_, h27_, h28_⟩
   have n0_ : Aside0 (w37.heap[gb264]? = some (.cells #[.bool a2_0, .int .i64 a2_1, .int .i64 a2_2] 23 (0, 0))) := ⟨h0_⟩
   have n1_ : Aside0 (w37.heap[gb265]? = some (.cells #[.bool a3_0, .int .i64 a3_1, .int .i64 a3_2] 23 (0, 0))) := ⟨h1_⟩
   have n2_ : Aside0 (w37.heap[gb278]? = some (.cells #[.bool t272, .int .i64 t273, .int .i64 t274] 24 (0, 0))) := ⟨h2_⟩
   have n3_ : Aside0 (w37.heap[gb279]? = some (.cells #[.bool t275, .int .i64 t276, .int .i64 t277] 24 (0, 0))) := ⟨h3_⟩
   have n4_ : Aside0 (w37.heap[gb292]? = some (.cells #[.bool false, .int .i64 0, .int .i64 0] 24 (0, 0))) := ⟨h4_⟩
   have n5_ : Aside0 (w37.heap[gb293]? = some (.cells #[.bool false, .int .i64 0, .int .i64 0] 24 (0, 0))) := ⟨h5_⟩
   have GW292 : Aside0 (w.heap.size ≤ gb292) := ⟨h6_⟩
   have GE292 : Aside0 (w.heap.size ≤ gb292) := ⟨h7_⟩
   have NB264_292 := A_ h8_
   have NB292_264 := A_ h9_
   have NB265_292 := A_ h10_
   have NB292_265 := A_ h11_
   have NB278_292 := A_ h12_
   have NB292_278 := A_ h13_
   have NB279_292 := A_ h14_
   have NB292_279 := A_ h15_
   have NB293_292 := A_ h16_
   have NB292_293 := A_ h17_
   have GW293 : Aside0 (w.heap.size ≤ gb293) := ⟨h18_⟩
   have GE293 : Aside0 (w.heap.size ≤ gb293) := ⟨h19_⟩
   have NB264_293 := A_ h20_
   have NB293_264 := A_ h21_
   have NB265_293 := A_ h22_
   have NB293_265 := A_ h23_
   have NB278_293 := A_ h24_
   have NB293_278 := A_ h25_
   have NB279_293 := A_ h26_
   have NB293_279 := A_ h27_
   have n28_ : Aside0 (Below w.heap.size w w37) := ⟨h28_⟩
   clear BK264 BK265
   clear BK278 BK279 HB
   clear h0_ h1_ h2_ h3_ h4_ h5_ h6_ h7_ h8_ h9_ h10_ h11_ h12_ h13_ h14_ h15_ h16_ h17_ h18_ h19_ h20_ h21_ h22_ h23_ h24_ h25_ h26_ h27_ h28_
   have BK264 := n0_
   have BK265 := n1_
   have BK278 := n2_
   have BK279 := n3_
   have BK292 := n4_
   have BK293 := n5_
   have HB := n28_
   clear n0_ n1_ n2_ n3_ n4_ n5_ n28_
   have hHeld : w37.cell? ⟨gb264, 0, none⟩ = some (.bool a2_0) ∧ w37.cell? ⟨gb264, 1, none⟩ = some (.int .i64 a2_1) ∧ w37.cell? ⟨gb264, 2, none⟩ = some (.int .i64 a2_2) ∧ w37.cell? ⟨gb265, 0, none⟩ = some (.bool a3_0) ∧ w37.cell? ⟨gb265, 1, none⟩ = some (.int .i64 a3_1) ∧ w37.cell? ⟨gb265, 2, none⟩ = some (.int .i64 a3_2) := hS_
   refine norm_ (a' := ?_) ?_ ?_
   rotate_left
   ·simp only [putAll, Act.put, List.setIfInBounds_toArray, List.set_cons_zero, List.set_cons_succ]
    rfl
   refine one_ (i := 12) (N := none) #[true, true, true, true, true, true, true, true, true, true, true, true, true, false] rfl rfl (one_of HT_.out (by kernel_rfl)) (by decide) (fun K hK => ?_)
   have hs38 : w37.cell? ⟨gb292, 0, none⟩ = some (.bool false) := bc_ BK292.out 0
   have hfs38 := blk_frozen BK292.out 0
   have hns38_0 := NB264_292.out
   have hns38_1 := NB265_292.out
   have hns38_2 := NB278_292.out
   have hns38_3 := NB279_292.out
   have hns38_5 := NB293_292.out
   have hms38_0 := NB292_264.out
   have hms38_1 := NB292_265.out
   have hms38_2 := NB292_278.out
   have hms38_3 := NB292_279.out
   have hms38_5 := NB292_293.out
   have hs39 : w37.cell? ⟨gb292, 1, none⟩ = some (.int .i64 0) := bc_ BK292.out 1
   have hfs39 := blk_frozen BK292.out 1
   have hns39_0 := NB264_292.out
   have hns39_1 := NB265_292.out
   have hns39_2 := NB278_292.out
   have hns39_3 := NB279_292.out
   have hns39_5 := NB293_292.out
   have hms39_0 := NB292_264.out
   have hms39_1 := NB292_265.out
   have hms39_2 := NB292_278.out
   have hms39_3 := NB292_279.out
   have hms39_5 := NB292_293.out
   have hs40 : w37.cell? ⟨gb292, 2, none⟩ = some (.int .i64 0) := bc_ BK292.out 2
   have hfs40 := blk_frozen BK292.out 2
   have hns40_0 := NB264_292.out
   have hns40_1 := NB265_292.out
   have hns40_2 := NB278_292.out
   have hns40_3 := NB279_292.out
   have hns40_5 := NB293_292.out
   have hms40_0 := NB292_264.out
   have hms40_1 := NB292_265.out
   have hms40_2 := NB292_278.out
   have hms40_3 := NB292_279.out
   have hms40_5 := NB292_293.out
   refine skip_ (w1 := ?_) (by rfl) rfl ?_ ?_
   rotate_left
   ·go_simp
    rfl
   refine hK.out _ _ ⟨((cell_far (p := ⟨gb292, _, none⟩) NB264_292.out _).trans (((cell_far (p := ⟨gb292, _, none⟩) NB264_292.out _).trans (((cell_far (p := ⟨gb292, _, none⟩) NB264_292.out _).trans (hHeld.1)))))), ((cell_far (p := ⟨gb292, _, none⟩) NB264_292.out _).trans (((cell_far (p := ⟨gb292, _, none⟩) NB264_292.out _).trans (((cell_far (p := ⟨gb292, _, none⟩) NB264_292.out _).trans (hHeld.2.1)))))), ((cell_far (p := ⟨gb292, _, none⟩) NB264_292.out _).trans (((cell_far (p := ⟨gb292, _, none⟩) NB264_292.out _).trans (((cell_far (p := ⟨gb292, _, none⟩) NB264_292.out _).trans (hHeld.2.2.1)))))), ((cell_far (p := ⟨gb292, _, none⟩) NB265_292.out _).trans (((cell_far (p := ⟨gb292, _, none⟩) NB265_292.out _).trans (((cell_far (p := ⟨gb292, _, none⟩) NB265_292.out _).trans (hHeld.2.2.2.1)))))), ((cell_far (p := ⟨gb292, _, none⟩) NB265_292.out _).trans (((cell_far (p := ⟨gb292, _, none⟩) NB265_292.out _).trans (((cell_far (p := ⟨gb292, _, none⟩) NB265_292.out _).trans (hHeld.2.2.2.2.1)))))), ((cell_far (p := ⟨gb292, _, none⟩) NB265_292.out _).trans (((cell_far (p := ⟨gb292, _, none⟩) NB265_292.out _).trans (((cell_far (p := ⟨gb292, _, none⟩) NB265_292.out _).trans (hHeld.2.2.2.2.2))))))⟩ (fun hHeld => ?_)
   clear hK K
   refine one_ (i := 13) (N := none) #[true, true, true, true, true, true, true, true, true, true, true, true, true, true] rfl rfl (one_of HT_.out (by kernel_rfl)) (by decide) (fun K hK => ?_)
   have hs41 : w37.cell? ⟨gb293, 0, none⟩ = some (.bool false) := bc_ BK293.out 0
   have hfs41 := blk_frozen BK293.out 0
   have hns41_0 := NB264_293.out
   have hns41_1 := NB265_293.out
   have hns41_2 := NB278_293.out
   have hns41_3 := NB279_293.out
   have hns41_4 := NB292_293.out
   have hms41_0 := NB293_264.out
   have hms41_1 := NB293_265.out
   have hms41_2 := NB293_278.out
   have hms41_3 := NB293_279.out
   have hms41_4 := NB293_292.out
   have hs42 : w37.cell? ⟨gb293, 1, none⟩ = some (.int .i64 0) := bc_ BK293.out 1
   have hfs42 := blk_frozen BK293.out 1
   have hns42_0 := NB264_293.out
   have hns42_1 := NB265_293.out
   have hns42_2 := NB278_293.out
   have hns42_3 := NB279_293.out
   have hns42_4 := NB292_293.out
   have hms42_0 := NB293_264.out
   have hms42_1 := NB293_265.out
   have hms42_2 := NB293_278.out
   have hms42_3 := NB293_279.out
   have hms42_4 := NB293_292.out
   have hs43 : w37.cell? ⟨gb293, 2, none⟩ = some (.int .i64 0) := bc_ BK293.out 2
   have hfs43 := blk_frozen BK293.out 2
   have hns43_0 := NB264_293.out
   have hns43_1 := NB265_293.out
   have hns43_2 := NB278_293.out
   have hns43_3 := NB279_293.out
   have hns43_4 := NB292_293.out
   have hms43_0 := NB293_264.out
   have hms43_1 := NB293_265.out
   have hms43_2 := NB293_278.out
   have hms43_3 := NB293_279.out
   have hms43_4 := NB293_292.out
   refine skip_ (w1 := ?_) (by rfl) rfl ?_ ?_
   rotate_left
   ·go_simp
    rfl
   refine hK.out _ _ ⟨((cell_far (p := ⟨gb293, _, none⟩) NB264_293.out _).trans (((cell_far (p := ⟨gb293, _, none⟩) NB264_293.out _).trans (((cell_far (p := ⟨gb293, _, none⟩) NB264_293.out _).trans (hHeld.1)))))), ((cell_far (p := ⟨gb293, _, none⟩) NB264_293.out _).trans (((cell_far (p := ⟨gb293, _, none⟩) NB264_293.out _).trans (((cell_far (p := ⟨gb293, _, none⟩) NB264_293.out _).trans (hHeld.2.1)))))), ((cell_far (p := ⟨gb293, _, none⟩) NB264_293.out _).trans (((cell_far (p := ⟨gb293, _, none⟩) NB264_293.out _).trans (((cell_far (p := ⟨gb293, _, none⟩) NB264_293.out _).trans (hHeld.2.2.1)))))), ((cell_far (p := ⟨gb293, _, none⟩) NB265_293.out _).trans (((cell_far (p := ⟨gb293, _, none⟩) NB265_293.out _).trans (((cell_far (p := ⟨gb293, _, none⟩) NB265_293.out _).trans (hHeld.2.2.2.1)))))), ((cell_far (p := ⟨gb293, _, none⟩) NB265_293.out _).trans (((cell_far (p := ⟨gb293, _, none⟩) NB265_293.out _).trans (((cell_far (p := ⟨gb293, _, none⟩) NB265_293.out _).trans (hHeld.2.2.2.2.1)))))), ((cell_far (p := ⟨gb293, _, none⟩) NB265_293.out _).trans (((cell_far (p := ⟨gb293, _, none⟩) NB265_293.out _).trans (((cell_far (p := ⟨gb293, _, none⟩) NB265_293.out _).trans (hHeld.2.2.2.2.2))))))⟩ (fun hHeld => ?_)
   clear hK K
   refine done_ (done_of HT_.out (by kernel_rfl)) ?_
   have hnb44 := NB292_264.out
   have hnc44 := NB264_292.out
   have hnb45 := NB292_265.out
   have hnc45 := NB265_292.out
   have hnb46 := NB292_278.out
   have hnc46 := NB278_292.out
   have hnb47 := NB292_279.out
   have hnc47 := NB279_292.out
   have hnb48 := NB292_293.out
   have hnc48 := NB293_292.out
   have hcz49_0 : w37.cell? ⟨gb292, 0, none⟩ = some (.bool false) := bc_ BK292.out 0
   have hcz49_1 : w37.cell? ⟨gb292, 1, none⟩ = some (.int .i64 0) := bc_ BK292.out 1
   have hcz49_2 : w37.cell? ⟨gb292, 2, none⟩ = some (.int .i64 0) := bc_ BK292.out 2
   have hfz49_0 := blk_frozen BK292.out 0
   have hfz49_1 := blk_frozen BK292.out 1
   have hfz49_2 := blk_frozen BK292.out 2
   have hnb50 := NB278_264.out
   have hnc50 := NB264_278.out
   have hnb51 := NB278_265.out
   have hnc51 := NB265_278.out
   have hnb52 := NB278_279.out
   have hnc52 := NB279_278.out
   have hnb53 := NB278_293.out
   have hnc53 := NB293_278.out
   have hcz54_0 : w37.cell? ⟨gb278, 0, none⟩ = some (.bool t272) := bc_ BK278.out 0
   have hcz54_1 : w37.cell? ⟨gb278, 1, none⟩ = some (.int .i64 t273) := bc_ BK278.out 1
   have hcz54_2 : w37.cell? ⟨gb278, 2, none⟩ = some (.int .i64 t274) := bc_ BK278.out 2
   have hfz54_0 := blk_frozen BK278.out 0
   have hfz54_1 := blk_frozen BK278.out 1
   have hfz54_2 := blk_frozen BK278.out 2
   try go_wp2_with (first | ((with_reducible refine gate_callee (f := 12) rfl ?_); refine goesL_ (some 35) rfl rfl Try.func12 (by kernel_rfl) rfl #[.agg #[.bool t286, .int .i64 t287, .int .i64 t288], .agg #[.bool t272, .int .i64 t273, .int .i64 t274]] rfl (by (try simp only [List.map_toArray, List.map_cons, List.map_nil]); first | done | rfl) ?_; (with_reducible refine (laws_eqSpan.calls t286 t287 t288 t272 t273 t274 true _ A11.out).mono ?_); rintro e w55 ⟨rfl, hb⟩; refine ⟨_, rfl, ?_⟩; have n0_ := A_ (blk_below (g := gb264) (o := .cells #[.bool a2_0, .int .i64 a2_1, .int .i64 a2_2] 23 (0, 0)) (by (with_reducible repeat (first | apply bn_ | apply bd_ | apply ba_)); refine blk_far ?_ NB264_293.out _; (with_reducible repeat (first | apply bn_ | apply bd_ | apply ba_)); refine blk_far ?_ NB264_293.out _; (with_reducible repeat (first | apply bn_ | apply bd_ | apply ba_)); refine blk_far ?_ NB264_293.out _; (with_reducible repeat (first | apply bn_ | apply bd_ | apply ba_)); refine blk_far ?_ NB264_292.out _; (with_reducible repeat (first | apply bn_ | apply bd_ | apply ba_)); refine blk_far ?_ NB264_292.out _; (with_reducible repeat (first | apply bn_ | apply bd_ | apply ba_)); refine blk_far ?_ NB264_292.out _; (with_reducible repeat (first | apply bn_ | apply bd_ | apply ba_)); exact BK264.out) hb); have n1_ := A_ (blk_below (g := gb265) (o := .cells #[.bool a3_0, .int .i64 a3_1, .int .i64 a3_2] 23 (0, 0)) (by (with_reducible repeat (first | apply bn_ | apply bd_ | apply ba_)); refine blk_far ?_ NB265_293.out _; (with_reducible repeat (first | apply bn_ | apply bd_ | apply ba_)); refine blk_far ?_ NB265_293.out _; (with_reducible repeat (first | apply bn_ | apply bd_ | apply ba_)); refine blk_far ?_ NB265_293.out _; (with_reducible repeat (first | apply bn_ | apply bd_ | apply ba_)); refine blk_far ?_ NB265_292.out _; (with_reducible repeat (first | apply bn_ | apply bd_ | apply ba_)); refine blk_far ?_ NB265_292.out _; (with_reducible repeat (first | apply bn_ | apply bd_ | apply ba_)); refine blk_far ?_ NB265_292.out _; (with_reducible repeat (first | apply bn_ | apply bd_ | apply ba_)); exact BK265.out) hb); have n2_ := A_ (blk_below (g := gb278) (o := .cells #[.bool t272, .int .i64 t273, .int .i64 t274] 24 (0, 0)) (by (with_reducible repeat (first | apply bn_ | apply bd_ | apply ba_)); refine blk_far ?_ NB278_293.out _; (with_reducible repeat (first | apply bn_ | apply bd_ | apply ba_)); refine blk_far ?_ NB278_293.out _; (with_reducible repeat (first | apply bn_ | apply bd_ | apply ba_)); refine blk_far ?_ NB278_293.out _; (with_reducible repeat (first | apply bn_ | apply bd_ | apply ba_)); refine blk_far ?_ NB278_292.out _; (with_reducible repeat (first | apply bn_ | apply bd_ | apply ba_)); refine blk_far ?_ NB278_292.out _; (with_reducible repeat (first | apply bn_ | apply bd_ | apply ba_)); refine blk_far ?_ NB278_292.out _; (with_reducible repeat (first | apply bn_ | apply bd_ | apply ba_)); exact BK278.out) hb); have n3_ := A_ (blk_below (g := gb279) (o := .cells #[.bool t275, .int .i64 t276, .int .i64 t277] 24 (0, 0)) (by (with_reducible repeat (first | apply bn_ | apply bd_ | apply ba_)); refine blk_far ?_ NB279_293.out _; (with_reducible repeat (first | apply bn_ | apply bd_ | apply ba_)); refine blk_far ?_ NB279_293.out _; (with_reducible repeat (first | apply bn_ | apply bd_ | apply ba_)); refine blk_far ?_ NB279_293.out _; (with_reducible repeat (first | apply bn_ | apply bd_ | apply ba_)); refine blk_far ?_ NB279_292.out _; (with_reducible repeat (first | apply bn_ | apply bd_ | apply ba_)); refine blk_far ?_ NB279_292.out _; (with_reducible repeat (first | apply bn_ | apply bd_ | apply ba_)); refine blk_far ?_ NB279_292.out _; (with_reducible repeat (first | apply bn_ | apply bd_ | apply ba_)); exact BK279.out) hb); have n4_ := A_ (blk_below (g := gb292) (o := .cells #[.bool t286, .int .i64 t287, .int .i64 t288] 24 (0, 0)) (by (with_reducible repeat (first | apply bn_ | apply bd_ | apply ba_)); refine blk_far ?_ NB292_293.out _; (with_reducible repeat (first | apply bn_ | apply bd_ | apply ba_)); refine blk_far ?_ NB292_293.out _; (with_reducible repeat (first | apply bn_ | apply bd_ | apply ba_)); refine blk_far ?_ NB292_293.out _; (with_reducible repeat (first | apply bn_ | apply bd_ | apply ba_)); refine blk_put (cs := #[.bool t286, .int .i64 t287, .int .i64 0]) ?_ 2 _ (by first | rfl | (simp [*]; done)); (with_reducible repeat (first | apply bn_ | apply bd_ | apply ba_)); refine blk_put (cs := #[.bool t286, .int .i64 0, .int .i64 0]) ?_ 1 _ (by first | rfl | (simp [*]; done)); (with_reducible repeat (first | apply bn_ | apply bd_ | apply ba_)); refine blk_put (cs := #[.bool false, .int .i64 0, .int .i64 0]) ?_ 0 _ (by first | rfl | (simp [*]; done)); (with_reducible repeat (first | apply bn_ | apply bd_ | apply ba_)); exact BK292.out) hb); have n5_ := A_ (blk_below (g := gb293) (o := .cells #[.bool t289, .int .i64 t290, .int .i64 t291] 24 (0, 0)) (by (with_reducible repeat (first | apply bn_ | apply bd_ | apply ba_)); refine blk_put (cs := #[.bool t289, .int .i64 t290, .int .i64 0]) ?_ 2 _ (by first | rfl | (simp [*]; done)); (with_reducible repeat (first | apply bn_ | apply bd_ | apply ba_)); refine blk_put (cs := #[.bool t289, .int .i64 0, .int .i64 0]) ?_ 1 _ (by first | rfl | (simp [*]; done)); (with_reducible repeat (first | apply bn_ | apply bd_ | apply ba_)); refine blk_put (cs := #[.bool false, .int .i64 0, .int .i64 0]) ?_ 0 _ (by first | rfl | (simp [*]; done)); (with_reducible repeat (first | apply bn_ | apply bd_ | apply ba_)); refine blk_far ?_ NB293_292.out _; (with_reducible repeat (first | apply bn_ | apply bd_ | apply ba_)); refine blk_far ?_ NB293_292.out _; (with_reducible repeat (first | apply bn_ | apply bd_ | apply ba_)); refine blk_far ?_ NB293_292.out _; (with_reducible repeat (first | apply bn_ | apply bd_ | apply ba_)); exact BK293.out) hb); have n6_ := A_ (below_step (by repeat (first | (with_reducible first | exact HB.out | apply b1_ | apply b2_ | apply b3_ | apply c_ GE264 | apply c_ GE265 | apply c_ GE278 | apply c_ GE279 | apply c_ GE292 | apply c_ GE293) | exact HB.out)) hb); clear BK264 BK265 BK278 BK279 BK292 BK293 HB; have BK264 := n0_; have BK265 := n1_; have BK278 := n2_; have BK279 := n3_; have BK292 := n4_; have BK293 := n5_; have HB := n6_; clear n0_ n1_ n2_ n3_ n4_ n5_ n6_; (try clear hb); (try clear hb2); (try clear hk); (try clear hi); have hnb56 := NB293_264.out; have hnc56 := NB264_293.out; have hnb57 := NB293_265.out; have hnc57 := NB265_293.out; have hnb58 := NB293_279.out; have hnc58 := NB279_293.out; have hcz59_0 : w55.cell? ⟨gb293, 0, none⟩ = some (.bool t289) := bc_ BK293.out 0; have hcz59_1 : w55.cell? ⟨gb293, 1, none⟩ = some (.int .i64 t290) := bc_ BK293.out 1; have hcz59_2 : w55.cell? ⟨gb293, 2, none⟩ = some (.int .i64 t291) := bc_ BK293.out 2; have hfz59_0 := blk_frozen BK293.out 0; have hfz59_1 := blk_frozen BK293.out 1; have hfz59_2 := blk_frozen BK293.out 2; have hnb60 := NB279_264.out; have hnc60 := NB264_279.out; have hnb61 := NB279_265.out; have hnc61 := NB265_279.out; have hcz62_0 : w55.cell? ⟨gb279, 0, none⟩ = some (.bool t275) := bc_ BK279.out 0; have hcz62_1 : w55.cell? ⟨gb279, 1, none⟩ = some (.int .i64 t276) := bc_ BK279.out 1; have hcz62_2 : w55.cell? ⟨gb279, 2, none⟩ = some (.int .i64 t277) := bc_ BK279.out 2; have hfz62_0 := blk_frozen BK279.out 0; have hfz62_1 := blk_frozen BK279.out 1; have hfz62_2 := blk_frozen BK279.out 2) | (go_at_call 12; (with_reducible refine (laws_eqSpan.calls t289 t290 t291 t275 t276 t277 true _ A13.out).mono ?_); rintro e w63 ⟨rfl, hb⟩; have n0_ := A_ (blk_below (bz_ BK264.out) hb); have n1_ := A_ (blk_below (bz_ BK265.out) hb); have n2_ := A_ (blk_below (bz_ BK278.out) hb); have n3_ := A_ (blk_below (bz_ BK279.out) hb); have n4_ := A_ (blk_below (bz_ BK292.out) hb); have n5_ := A_ (blk_below (bz_ BK293.out) hb); have n6_ := A_ (below_step (by repeat (first | (with_reducible first | exact HB.out | apply b1_ | apply b2_ | apply b3_ | apply c_ GE264 | apply c_ GE265 | apply c_ GE278 | apply c_ GE279 | apply c_ GE292 | apply c_ GE293) | exact HB.out)) hb); clear BK264 BK265 BK278 BK279 BK292 BK293 HB; have BK264 := n0_; have BK265 := n1_; have BK278 := n2_; have BK279 := n3_; have BK292 := n4_; have BK293 := n5_; have HB := n6_; clear n0_ n1_ n2_ n3_ n4_ n5_ n6_; (try clear hb); (try clear hb2); (try clear hk); (try clear hi)))
   go_ret
   exact ⟨by first | rfl | (simp [errW_none, errW_some] <;> rfl) | (simp [*, errW_none, errW_some] <;> rfl), by repeat (first | (with_reducible first | exact HB.out | apply b1_ | apply b2_ | apply b3_ | apply c_ GE264 | apply c_ GE265 | apply c_ GE278 | apply c_ GE279 | apply c_ GE292 | apply c_ GE293) | exact HB.out)⟩
  ·replace c14 := Bool.eq_false_iff.mpr c14
   subst c14
   have H1 : (some false) = some r := by rw [if_neg (show ¬ (false = true) by decide)] at H; exact H
   clear H
   have H := H1
   clear H1
   exact absurd (hr.out.trans (Option.some.inj H).symm) (by decide)
 ·replace c12 := Bool.eq_false_iff.mpr c12
  subst c12
  have H1 : (some false) = some r := by rw [if_neg (show ¬ (false = true) by decide)] at H; exact H
  clear H
  have H := H1
  clear H1
  exact absurd (hr.out.trans (Option.some.inj H).symm) (by decide)

/-- The one plain statement of laws_FnExactRelMeet. -/
def laws_FnExactRelMeet.Pure : Prop := ∀ (a0 : Int) (a1 : Int) (a2_0 : Bool) (a2_1 : Int) (a2_2 : Int) (a3_0 : Bool) (a3_1 : Int) (a3_2 : Int), (Lit.int .i64 a0).wf = true → (Lit.int .i64 a1).wf = true → (Lit.int .i64 a2_1).wf = true → (Lit.int .i64 a2_2).wf = true → (Lit.int .i64 a3_1).wf = true → (Lit.int .i64 a3_2).wf = true → ∃ k, laws_FnExactRelMeet.f k a0 a1 a2_0 a2_1 a2_2 a3_0 a3_1 a3_2 = some true
theorem laws_FnExactRelMeet.walk (P : laws_FnExactRelMeet.Pure) (a0 : Int) (a1 : Int) (a2_0 : Bool) (a2_1 : Int) (a2_2 : Int) (a3_0 : Bool) (a3_1 : Int) (a3_2 : Int) (w : World) (w0 : (Lit.int .i64 a0).wf = true) (w1 : (Lit.int .i64 a1).wf = true) (w2_1 : (Lit.int .i64 a2_1).wf = true) (w2_2 : (Lit.int .i64 a2_2).wf = true) (w3_1 : (Lit.int .i64 a3_1).wf = true) (w3_2 : (Lit.int .i64 a3_2).wf = true) :
  Calls Try.prog 3 #[.int .i64 a0, .int .i64 a1, .agg #[.bool a2_0, .int .i64 a2_1, .int .i64 a2_2], .agg #[.bool a3_0, .int .i64 a3_1, .int .i64 a3_2]] w fun e w' => e = .returned (.bool true) ∧ Below w.heap.size w w' := by
 obtain ⟨k, h⟩ := P a0 a1 a2_0 a2_1 a2_2 a3_0 a3_1 a3_2 w0 w1 w2_1 w2_2 w3_1 w3_2
 refine (laws_FnExactRelMeet.calls k a0 a1 a2_0 a2_1 a2_2 a3_0 a3_1 a3_2 true w  h (A_ rfl)).mono ?_
 rintro e w' ⟨rfl, hd⟩
 exact ⟨rfl, hd⟩

end Go.Proofs.Ytlnihglcneaonaa.QFnExactRelMeet
