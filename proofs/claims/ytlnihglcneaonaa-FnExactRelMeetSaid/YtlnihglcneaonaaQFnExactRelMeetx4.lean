/- The machine side of one law: each function and the law itself walked once, written by a program of this session (wip/xprint.py) that runs the printer of the kit.
   Conditions: none. -/
import Derived.Test.YtlnihglcneaonaaQFnExactRelMeetx0
import Derived.Test.YtlnihglcneaonaaQFnExactRelMeetx2
import Derived.Test.YtlnihglcneaonaaQFnExactRelMeetx3
namespace Go.Proofs.Ytlnihglcneaonaa.QFnExactRelMeet
open Go.RowKit Go.Proofs.YtlnihglcneaonaaW.PrintWords Go.Proofs.YtlnihglcneaonaaW.PrintLast Go.Proofs.YtlnihglcneaonaaW.PrintMore
attribute [local go_sem] Go.Instr.field Go.asAgg Go.Proofs.Ytlnihglcneaonaa.MS.isSome_setCell
attribute [local go_sem] max2_int min2_int max_two min_two max_three min_three max_four min_four   -- for this text's walks alone
set_option linter.unusedVariables false
set_option linter.unusedSimpArgs false

/-! ### spec_SpanMeet: function 34 -/
def spec_SpanMeet.f (a0 : Int) (a1_0 : Bool) (a1_1 : Int) (a1_2 : Int) (a2_0 : Bool) (a2_1 : Int) (a2_2 : Int) : Option (Bool × Int × Int) := (spec_l9Both.f a0 a1_0 a1_1 a1_2 a2_0 a2_1 a2_2).bind fun t131 => (if t131 = true then ((spec_l9Pair.f a1_0 a1_1 a1_2).bind fun bt132 => ((spec_l9Pair.f a2_0 a2_1 a2_2).bind fun bt134 => ((spec_PairMeet.f a0 bt132.1 bt132.2 bt134.1 bt134.2).bind fun bt136 => (if bt136.2.2 = true then ((spec_l9Of.f bt136.1 bt136.2.1).bind fun bt140 => (some (bt140.1, bt140.2.1, bt140.2.2))) else (some (false, 0, 0)))))) else (some (false, 0, 0)))
def spec_SpanMeet.T3 : Bool × List (List Nat × List Nat) := (true, [([], []), ([], []), ([1], [1]), ([], []), ([3, 2], [3]), ([0, 2, 4, 4], [0, 2, 4]), ([5], [5]), ([6], [6]), ([6], [6]), ([], []), ([9, 7, 5, 0, 1, 2, 3, 4, 5, 6, 7, 9], [7, 9]), ([8, 10, 0, 1, 2, 3, 4, 5, 6, 7, 8, 9, 10], [8])])
def spec_SpanMeet.B3 : List Nat := [0, 0, 2, 0, 14, 31, 63, 127, 127, 0, 767, 2047]
theorem spec_SpanMeet.tab3 : rtab .any (opsOf Try.f34 3) = spec_SpanMeet.T3 := by kernel_rfl
theorem spec_SpanMeet.bits3 : waitsOk spec_SpanMeet.T3.2 spec_SpanMeet.B3 = true := by kernel_rfl
set_option maxHeartbeats 8000000 in
set_option maxRecDepth 100000 in
theorem spec_SpanMeet.calls (a0 : Int) (a1_0 : Bool) (a1_1 : Int) (a1_2 : Int) (a2_0 : Bool) (a2_1 : Int) (a2_2 : Int) (r1 : Bool) (r2 : Int) (r3 : Int) (w : World) (h : spec_SpanMeet.f a0 a1_0 a1_1 a1_2 a2_0 a2_1 a2_2 = some (r1, r2, r3)) :
  Calls Try.prog 34 #[.int .i64 a0, .agg #[.bool a1_0, .int .i64 a1_1, .int .i64 a1_2], .agg #[.bool a2_0, .int .i64 a2_1, .int .i64 a2_2]] w fun e w' => e = .returned (.agg #[.bool r1, .int .i64 r2, .int .i64 r3]) ∧ Below w.heap.size w w' := by
 have hu24 := Try.underlying24
 have hu64 := Try.underlying64
 have HB := A_ (Below.refl w.heap.size w)
 have H : ((spec_l9Both.f a0 a1_0 a1_1 a1_2 a2_0 a2_1 a2_2).bind fun t131 => (if t131 = true then ((spec_l9Pair.f a1_0 a1_1 a1_2).bind fun bt132 => ((spec_l9Pair.f a2_0 a2_1 a2_2).bind fun bt134 => ((spec_PairMeet.f a0 bt132.1 bt132.2 bt134.1 bt134.2).bind fun bt136 => (if bt136.2.2 = true then ((spec_l9Of.f bt136.1 bt136.2.1).bind fun bt140 => (some (bt140.1, bt140.2.1, bt140.2.2))) else (some (false, 0, 0)))))) else (some (false, 0, 0)))) = some (r1, r2, r3) := h
 clear h
 replace H := Option.bind_eq_some_iff.mp H
 obtain ⟨t131, A40, H⟩ := H
 replace H : (if t131 = true then ((spec_l9Pair.f a1_0 a1_1 a1_2).bind fun bt132 => ((spec_l9Pair.f a2_0 a2_1 a2_2).bind fun bt134 => ((spec_PairMeet.f a0 bt132.1 bt132.2 bt134.1 bt134.2).bind fun bt136 => (if bt136.2.2 = true then ((spec_l9Of.f bt136.1 bt136.2.1).bind fun bt140 => (some (bt140.1, bt140.2.1, bt140.2.2))) else (some (false, 0, 0)))))) else (some (false, 0, 0))) = some (r1, r2, r3) := H
 have A4 := A_ A40
 clear A40
 by_cases c5 : t131 = true
 ·subst c5
  have H1 : ((spec_l9Pair.f a1_0 a1_1 a1_2).bind fun bt132 => ((spec_l9Pair.f a2_0 a2_1 a2_2).bind fun bt134 => ((spec_PairMeet.f a0 bt132.1 bt132.2 bt134.1 bt134.2).bind fun bt136 => (if bt136.2.2 = true then ((spec_l9Of.f bt136.1 bt136.2.1).bind fun bt140 => (some (bt140.1, bt140.2.1, bt140.2.2))) else (some (false, 0, 0)))))) = some (r1, r2, r3) := by rw [if_pos rfl] at H; exact H
  clear H
  have H := H1
  clear H1
  replace H := Option.bind_eq_some_iff.mp H
  obtain ⟨⟨t132, t133⟩, A60, H⟩ := H
  replace H : ((spec_l9Pair.f a2_0 a2_1 a2_2).bind fun bt134 => ((spec_PairMeet.f a0 t132 t133 bt134.1 bt134.2).bind fun bt136 => (if bt136.2.2 = true then ((spec_l9Of.f bt136.1 bt136.2.1).bind fun bt140 => (some (bt140.1, bt140.2.1, bt140.2.2))) else (some (false, 0, 0))))) = some (r1, r2, r3) := H
  have A6 := A_ A60
  clear A60
  replace H := Option.bind_eq_some_iff.mp H
  obtain ⟨⟨t134, t135⟩, A70, H⟩ := H
  replace H : ((spec_PairMeet.f a0 t132 t133 t134 t135).bind fun bt136 => (if bt136.2.2 = true then ((spec_l9Of.f bt136.1 bt136.2.1).bind fun bt140 => (some (bt140.1, bt140.2.1, bt140.2.2))) else (some (false, 0, 0)))) = some (r1, r2, r3) := H
  have A7 := A_ A70
  clear A70
  replace H := Option.bind_eq_some_iff.mp H
  obtain ⟨⟨t136, t137, t138⟩, A80, H⟩ := H
  replace H : (if t138 = true then ((spec_l9Of.f t136 t137).bind fun bt140 => (some (bt140.1, bt140.2.1, bt140.2.2))) else (some (false, 0, 0))) = some (r1, r2, r3) := H
  have A8 := A_ A80
  clear A80
  by_cases c9 : t138 = true
  ·subst c9
   have H1 : ((spec_l9Of.f t136 t137).bind fun bt140 => (some (bt140.1, bt140.2.1, bt140.2.2))) = some (r1, r2, r3) := by rw [if_pos rfl] at H; exact H
   clear H
   have H := H1
   clear H1
   replace H := Option.bind_eq_some_iff.mp H
   obtain ⟨⟨t140, t141, t142⟩, A100, H⟩ := H
   replace H : (some (t140, t141, t142)) = some (r1, r2, r3) := H
   have A10 := A_ A100
   clear A100
   simp only [Option.some.injEq, Prod.mk.injEq] at H
   obtain ⟨rfl, rfl, rfl⟩ := H
   go_enter Try.func34, Try.ntmps34
   try go_wp2_with (first | ((with_reducible refine gate_dst (N := 4) rfl ?_); refine box_event ?hg (N := 4) ?hd (cs := #[.bool a1_0, .int .i64 a1_1, .int .i64 a1_2]) (t := 24) ?hr ?_; (case hd => rfl); (case hg => rfl); (case hr => first | (go_simp; done) | (go_simp; rfl)); intro gb128 hg w11 hbox hb; have n0_ := A_ (below_step (by repeat (first | (with_reducible first | exact HB.out | apply b1_ | apply b2_ | apply b3_) | exact HB.out)) hb); have n1_ := A_ (hbox); have n2_ := A_ (ge_ hg); have n3_ := n2_; clear HB; have HB := n0_; have BK128 := n1_; have GW128 := n2_; have GE128 := n3_; clear n0_ n1_ n2_ n3_; clear hb hbox hg) | ((with_reducible refine gate_dst (N := 5) rfl ?_); refine box_event ?hg (N := 5) ?hd (cs := #[.bool a2_0, .int .i64 a2_1, .int .i64 a2_2]) (t := 24) ?hr ?_; (case hd => rfl); (case hg => rfl); (case hr => first | (go_simp; done) | (go_simp; rfl)); intro gb129 hg w12 hbox hb; have n0_ := A_ (blk_below (bz_ BK128.out) hb); have n1_ := A_ (below_step (by repeat (first | (with_reducible first | exact HB.out | apply b1_ | apply b2_ | apply b3_ | apply c_ GE128) | exact HB.out)) hb); have n2_ := A_ (hbox); have n3_ := A_ (ge_ hg); have n4_ := n3_; have n5_ := A_ (nl_ hg (bz_ BK128.out)); have n6_ := A_ (ng_ hg (bz_ BK128.out)); clear BK128 HB; have BK128 := n0_; have HB := n1_; have BK129 := n2_; have GW129 := n3_; have GE129 := n4_; have NB128_129 := n5_; have NB129_128 := n6_; clear n0_ n1_ n2_ n3_ n4_ n5_ n6_; clear hb hbox hg) | ((with_reducible refine gate_dst (N := 6) rfl ?_); refine box_event ?hg (N := 6) ?hd (cs := #[.bool false, .int .i64 0, .int .i64 0]) (t := 24) ?hr ?_; (case hd => rfl); (case hg => rfl); (case hr => first | (go_simp; done) | (go_simp; rfl)); intro gb130 hg w13 hbox hb; have n0_ := A_ (blk_below (bz_ BK128.out) hb); have n1_ := A_ (blk_below (bz_ BK129.out) hb); have n2_ := A_ (below_step (by repeat (first | (with_reducible first | exact HB.out | apply b1_ | apply b2_ | apply b3_ | apply c_ GE128 | apply c_ GE129) | exact HB.out)) hb); have n3_ := A_ (hbox); have n4_ := A_ (ge_ hg); have n5_ := n4_; have n6_ := A_ (nl_ hg (bz_ BK128.out)); have n7_ := A_ (ng_ hg (bz_ BK128.out)); have n8_ := A_ (nl_ hg (bz_ BK129.out)); have n9_ := A_ (ng_ hg (bz_ BK129.out)); clear BK128 BK129 HB; have BK128 := n0_; have BK129 := n1_; have HB := n2_; have BK130 := n3_; have GW130 := n4_; have GE130 := n5_; have NB128_130 := n6_; have NB130_128 := n7_; have NB129_130 := n8_; have NB130_129 := n9_; clear n0_ n1_ n2_ n3_ n4_ n5_ n6_ n7_ n8_ n9_; clear hb hbox hg; have hnb14 := NB128_129.out; have hnc14 := NB129_128.out; have hnb15 := NB128_130.out; have hnc15 := NB130_128.out; have hcz16_0 : w13.cell? ⟨gb128, 0, none⟩ = some (.bool a1_0) := bc_ BK128.out 0; have hcz16_1 : w13.cell? ⟨gb128, 1, none⟩ = some (.int .i64 a1_1) := bc_ BK128.out 1; have hcz16_2 : w13.cell? ⟨gb128, 2, none⟩ = some (.int .i64 a1_2) := bc_ BK128.out 2; have hfz16_0 := blk_frozen BK128.out 0; have hfz16_1 := blk_frozen BK128.out 1; have hfz16_2 := blk_frozen BK128.out 2; have hnb17 := NB129_130.out; have hnc17 := NB130_129.out; have hcz18_0 : w13.cell? ⟨gb129, 0, none⟩ = some (.bool a2_0) := bc_ BK129.out 0; have hcz18_1 : w13.cell? ⟨gb129, 1, none⟩ = some (.int .i64 a2_1) := bc_ BK129.out 1; have hcz18_2 : w13.cell? ⟨gb129, 2, none⟩ = some (.int .i64 a2_2) := bc_ BK129.out 2; have hfz18_0 := blk_frozen BK129.out 0; have hfz18_1 := blk_frozen BK129.out 1; have hfz18_2 := blk_frozen BK129.out 2) | ((with_reducible refine gate_callee (f := 32) rfl ?_); refine goesL_ (some 12) rfl rfl Try.func32 (by kernel_rfl) rfl #[.int .i64 a0, .agg #[.bool a1_0, .int .i64 a1_1, .int .i64 a1_2], .agg #[.bool a2_0, .int .i64 a2_1, .int .i64 a2_2]] rfl (by (try simp only [List.map_toArray, List.map_cons, List.map_nil]); first | done | rfl) ?_; (with_reducible refine (spec_l9Both.calls a0 a1_0 a1_1 a1_2 a2_0 a2_1 a2_2 true _ A4.out).mono ?_); rintro e w19 ⟨rfl, hb⟩; refine ⟨_, rfl, ?_⟩; have n0_ := A_ (blk_below (bz_ BK128.out) hb); have n1_ := A_ (blk_below (bz_ BK129.out) hb); have n2_ := A_ (blk_below (bz_ BK130.out) hb); have n3_ := A_ (below_step (by repeat (first | (with_reducible first | exact HB.out | apply b1_ | apply b2_ | apply b3_ | apply c_ GE128 | apply c_ GE129 | apply c_ GE130) | exact HB.out)) hb); clear BK128 BK129 BK130 HB; have BK128 := n0_; have BK129 := n1_; have BK130 := n2_; have HB := n3_; clear n0_ n1_ n2_ n3_; (try clear hb); (try clear hb2); (try clear hk); (try clear hi)))
   have n0_ := A_ (blk_drew BK128.out)
   have n1_ := A_ (blk_drew BK129.out)
   have n2_ := A_ (blk_drew BK130.out)
   have n3_ := A_ (below_drew1 HB.out)
   clear BK128 BK129
   clear BK130 HB
   have BK128 := n0_
   have BK129 := n1_
   have BK130 := n2_
   have HB := n3_
   clear n0_ n1_ n2_ n3_
   refine start_ (n := 12) (S := fun w' => w'.cell? ⟨gb128, 0, none⟩ = some (.bool a1_0) ∧ w'.cell? ⟨gb128, 1, none⟩ = some (.int .i64 a1_1) ∧ w'.cell? ⟨gb128, 2, none⟩ = some (.int .i64 a1_2) ∧ w'.cell? ⟨gb129, 0, none⟩ = some (.bool a2_0) ∧ w'.cell? ⟨gb129, 1, none⟩ = some (.int .i64 a2_1) ∧ w'.cell? ⟨gb129, 2, none⟩ = some (.int .i64 a2_2)) (ds := []) #[false, false, false, false, false, false, false, false, false, false, false, false] (by kernel_rfl) rfl rfl ⟨bc_ BK128.out 0, bc_ BK128.out 1, bc_ BK128.out 2, bc_ BK129.out 0, bc_ BK129.out 1, bc_ BK129.out 2⟩ (fun hHeld => ?_); refine with_tabW spec_SpanMeet.tab3 spec_SpanMeet.bits3 (fun HT_ HW_ => ?_)
   generalize w19.drew = w20 at BK128 BK129 BK130 HB hHeld ⊢
   refine pure_ (i := 0) (N := some 16) (v := ?_) (a' := ?_) #[true, false, false, false, false, false, false, false, false, false, false, false] rfl rfl (any_of HT_.out (by kernel_rfl)) (fun _ _ _ h => h) (Or.inl ⟨by rfl, ?_⟩) ?_ ?_
   rotate_left
   ·intro w'
    go_simp
    with_reducible rfl
   rotate_left
   ·simp only [Act.put, x1_, x2_, x3_, i64_w, i32_w]
    rfl
   refine take_ (i := 1) (N := some 17) (v := ?_) (a' := ?_) #[true, true, false, false, false, false, false, false, false, false, false, false] rfl rfl (take_ofW HT_.out HW_.out (by kernel_rfl)) (fun _ _ _ h => h) (Or.inl ⟨by rfl, ?_⟩) hHeld ?_ ?_
   rotate_left
   ·rintro w' ⟨s0, s1, s2, s3, s4, s5⟩
    go_simp
    with_reducible rfl
   rotate_left
   ·simp only [Act.put, x1_, x2_, x3_, i64_w, i32_w]
    rfl
   refine take_ (i := 3) (N := some 19) (v := ?_) (a' := ?_) #[true, true, false, true, false, false, false, false, false, false, false, false] rfl rfl (take_ofW HT_.out HW_.out (by kernel_rfl)) (fun _ _ _ h => h) (Or.inl ⟨by rfl, ?_⟩) hHeld ?_ ?_
   rotate_left
   ·rintro w' ⟨s0, s1, s2, s3, s4, s5⟩
    go_simp
    with_reducible rfl
   rotate_left
   ·simp only [Act.put, x1_, x2_, x3_, i64_w, i32_w]
    rfl
   refine join_ (σ := Nat) 2 #[true, true, true, true, true, true, true, true, true, true, false, false] (fun s_ => [(18, .agg #[.int .i64 t132, .int .i64 t133]), (20, .agg #[.int .i64 t134, .int .i64 t135]), (21, .tuple #[.agg #[.int .i64 t136, .int .i64 t137], .bool true]), (7, .pointer (some ⟨s_, 0, none⟩)), (15, .tuple #[.agg #[.int .i64 t136, .int .i64 t137], .bool true]), (22, .agg #[.int .i64 t136, .int .i64 t137]), (23, .bool true)]) (fun s_ w' => (w'.cell? ⟨gb128, 0, none⟩ = some (.bool a1_0) ∧ w'.cell? ⟨gb128, 1, none⟩ = some (.int .i64 a1_1) ∧ w'.cell? ⟨gb128, 2, none⟩ = some (.int .i64 a1_2) ∧ w'.cell? ⟨gb129, 0, none⟩ = some (.bool a2_0) ∧ w'.cell? ⟨gb129, 1, none⟩ = some (.int .i64 a2_1) ∧ w'.cell? ⟨gb129, 2, none⟩ = some (.int .i64 a2_2)) ∧ (w'.heap[gb128]? = some (.cells #[.bool a1_0, .int .i64 a1_1, .int .i64 a1_2] 24 (0, 0))) ∧ (w'.heap[gb129]? = some (.cells #[.bool a2_0, .int .i64 a2_1, .int .i64 a2_2] 24 (0, 0))) ∧ (w'.heap[gb130]? = some (.cells #[.bool false, .int .i64 0, .int .i64 0] 24 (0, 0))) ∧ (w'.heap[s_]? = some (.cells #[.int .i64 0, .int .i64 0] 64 (0, 0))) ∧ (w.heap.size ≤ s_) ∧ (w.heap.size ≤ s_) ∧ (gb128 ≠ s_) ∧ (s_ ≠ gb128) ∧ (gb129 ≠ s_) ∧ (s_ ≠ gb129) ∧ (gb130 ≠ s_) ∧ (s_ ≠ gb130) ∧ (Below w.heap.size w w')) ?_ ?_
   rotate_left
   ·intro hCont
    refine two_ (i := 2) (j := 9) (Ni := some 18) (Nj := some 7) #[true, true, true, true, false, false, false, false, false, false, false, false] #[true, true, false, true, false, false, false, false, false, true, false, false] rfl rfl rfl rfl (two_of HT_.out (by kernel_rfl)) (by decide) (by decide) (fun K hK => ?_) (fun K hK => ?_)
    ·skip
     refine goes_ Try.func64 (by kernel_rfl) rfl #[.agg #[.bool a1_0, .int .i64 a1_1, .int .i64 a1_2]] (by rfl) rfl rfl (by (try simp only [List.map_toArray, List.map_cons, List.map_nil]); first | done | rfl) ?_
     with_reducible refine (spec_l9Pair.calls a1_0 a1_1 a1_2 t132 t133 _ A6.out).mono ?_
     rintro e w21 ⟨rfl, hb⟩
     refine ⟨_, rfl, ?_⟩
     have n0_ := A_ (blk_below (bz_ BK128.out) hb)
     have n1_ := A_ (blk_below (bz_ BK129.out) hb)
     have n2_ := A_ (blk_below (bz_ BK130.out) hb)
     have n3_ := A_ (below_step (by repeat (first | (with_reducible first | exact HB.out | apply b1_ | apply b2_ | apply b3_ | apply c_ GE128 | apply c_ GE129 | apply c_ GE130) | exact HB.out)) hb)
     clear BK128 BK129
     clear BK130 HB
     have BK128 := n0_
     have BK129 := n1_
     have BK130 := n2_
     have HB := n3_
     clear n0_ n1_ n2_ n3_
     (try clear hb)
     (try clear hb2)
     (try clear hk)
     (try clear hi)
     refine hK.out _ _ ⟨bc_ BK128.out 0, bc_ BK128.out 1, bc_ BK128.out 2, bc_ BK129.out 0, bc_ BK129.out 1, bc_ BK129.out 2⟩ (fun hHeld => ?_)
     clear hK K
     refine norm_ (a' := ?_) ?_ ?_
     rotate_left
     ·show Act.put _ (some 18) _ = _
      simp only [Act.put, x1_, x2_, x3_, i64_w, i32_w]
      rfl
     refine two_ (i := 4) (j := 9) (Ni := some 20) (Nj := some 7) #[true, true, true, true, true, false, false, false, false, false, false, false] #[true, true, true, true, false, false, false, false, false, true, false, false] rfl rfl rfl rfl (two_of HT_.out (by kernel_rfl)) (by decide) (by decide) (fun K hK => ?_) (fun K hK => ?_)
     ·skip
      refine goes_ Try.func64 (by kernel_rfl) rfl #[.agg #[.bool a2_0, .int .i64 a2_1, .int .i64 a2_2]] (by rfl) rfl rfl (by (try simp only [List.map_toArray, List.map_cons, List.map_nil]); first | done | rfl) ?_
      with_reducible refine (spec_l9Pair.calls a2_0 a2_1 a2_2 t134 t135 _ A7.out).mono ?_
      rintro e w22 ⟨rfl, hb⟩
      refine ⟨_, rfl, ?_⟩
      have n0_ := A_ (blk_below (bz_ BK128.out) hb)
      have n1_ := A_ (blk_below (bz_ BK129.out) hb)
      have n2_ := A_ (blk_below (bz_ BK130.out) hb)
      have n3_ := A_ (below_step (by repeat (first | (with_reducible first | exact HB.out | apply b1_ | apply b2_ | apply b3_ | apply c_ GE128 | apply c_ GE129 | apply c_ GE130) | exact HB.out)) hb)
      clear BK128 BK129
      clear BK130 HB
      have BK128 := n0_
      have BK129 := n1_
      have BK130 := n2_
      have HB := n3_
      clear n0_ n1_ n2_ n3_
      (try clear hb)
      (try clear hb2)
      (try clear hk)
      (try clear hi)
      refine hK.out _ _ ⟨bc_ BK128.out 0, bc_ BK128.out 1, bc_ BK128.out 2, bc_ BK129.out 0, bc_ BK129.out 1, bc_ BK129.out 2⟩ (fun hHeld => ?_)
      clear hK K
      refine norm_ (a' := ?_) ?_ ?_
      rotate_left
      ·show Act.put _ (some 20) _ = _
       simp only [Act.put, x1_, x2_, x3_, i64_w, i32_w]
       rfl
      refine two_ (i := 5) (j := 9) (Ni := some 21) (Nj := some 7) #[true, true, true, true, true, true, false, false, false, false, false, false] #[true, true, true, true, true, false, false, false, false, true, false, false] rfl rfl rfl rfl (two_of HT_.out (by kernel_rfl)) (by decide) (by decide) (fun K hK => ?_) (fun K hK => ?_)
      ·skip
       refine goes_ Try.func56 (by kernel_rfl) rfl #[.int .i64 a0, .agg #[.int .i64 t132, .int .i64 t133], .agg #[.int .i64 t134, .int .i64 t135]] (by rfl) rfl rfl (by (try simp only [List.map_toArray, List.map_cons, List.map_nil]); first | done | rfl) ?_
       with_reducible refine (spec_PairMeet.calls a0 t132 t133 t134 t135 t136 t137 true _ A8.out).mono ?_
       rintro e w23 ⟨rfl, hb⟩
       refine ⟨_, rfl, ?_⟩
       have n0_ := A_ (blk_below (bz_ BK128.out) hb)
       have n1_ := A_ (blk_below (bz_ BK129.out) hb)
       have n2_ := A_ (blk_below (bz_ BK130.out) hb)
       have n3_ := A_ (below_step (by repeat (first | (with_reducible first | exact HB.out | apply b1_ | apply b2_ | apply b3_ | apply c_ GE128 | apply c_ GE129 | apply c_ GE130) | exact HB.out)) hb)
       clear BK128 BK129
       clear BK130 HB
       have BK128 := n0_
       have BK129 := n1_
       have BK130 := n2_
       have HB := n3_
       clear n0_ n1_ n2_ n3_
       (try clear hb)
       (try clear hb2)
       (try clear hk)
       (try clear hi)
       refine hK.out _ _ ⟨bc_ BK128.out 0, bc_ BK128.out 1, bc_ BK128.out 2, bc_ BK129.out 0, bc_ BK129.out 1, bc_ BK129.out 2⟩ (fun hHeld => ?_)
       clear hK K
       refine norm_ (a' := ?_) ?_ ?_
       rotate_left
       ·show Act.put _ (some 21) _ = _
        simp only [Act.put, x1_, x2_, x3_, i64_w, i32_w]
        rfl
       refine pure_ (i := 6) (N := some 15) (v := ?_) (a' := ?_) #[true, true, true, true, true, true, true, false, false, false, false, false] rfl rfl (any_of HT_.out (by kernel_rfl)) (fun _ _ _ h => h) (Or.inl ⟨by rfl, ?_⟩) ?_ ?_
       rotate_left
       ·intro w'
        go_simp
        with_reducible rfl
       rotate_left
       ·simp only [Act.put, x1_, x2_, x3_, i64_w, i32_w]
        rfl
       refine pure_ (i := 7) (N := some 22) (v := ?_) (a' := ?_) #[true, true, true, true, true, true, true, true, false, false, false, false] rfl rfl (any_of HT_.out (by kernel_rfl)) (fun _ _ _ h => h) (Or.inl ⟨by rfl, ?_⟩) ?_ ?_
       rotate_left
       ·intro w'
        go_simp
        with_reducible rfl
       rotate_left
       ·simp only [Act.put, x1_, x2_, x3_, i64_w, i32_w]
        rfl
       refine pure_ (i := 8) (N := some 23) (v := ?_) (a' := ?_) #[true, true, true, true, true, true, true, true, true, false, false, false] rfl rfl (any_of HT_.out (by kernel_rfl)) (fun _ _ _ h => h) (Or.inl ⟨by rfl, ?_⟩) ?_ ?_
       rotate_left
       ·intro w'
        go_simp
        with_reducible rfl
       rotate_left
       ·simp only [Act.put, x1_, x2_, x3_, i64_w, i32_w]
        rfl
       refine one_ (i := 9) (N := some 7) #[true, true, true, true, true, true, true, true, true, true, false, false] rfl rfl (one_of HT_.out (by kernel_rfl)) (by decide) (fun K hK => ?_)
       refine box_step ?hg (N := 7) ?hd (cs := #[.int .i64 0, .int .i64 0]) (t := 64) ?hr ?_; (case hd => rfl); (case hg => rfl); (case hr => first | (go_simp; done) | (go_simp; rfl))
       intro gb139 hg w24 hbox hb
       have n0_ := A_ (blk_below (bz_ BK128.out) hb)
       have n1_ := A_ (blk_below (bz_ BK129.out) hb)
       have n2_ := A_ (blk_below (bz_ BK130.out) hb)
       have n3_ := A_ (below_step (by repeat (first | (with_reducible first | exact HB.out | apply b1_ | apply b2_ | apply b3_ | apply c_ GE128 | apply c_ GE129 | apply c_ GE130) | exact HB.out)) hb)
       have n4_ := A_ (hbox)
       have n5_ := A_ (ge_ hg)
       have GE139 := n5_
       have NB128_139 := A_ (nl_ hg (bz_ BK128.out))
       have NB139_128 := A_ (ng_ hg (bz_ BK128.out))
       have NB129_139 := A_ (nl_ hg (bz_ BK129.out))
       have NB139_129 := A_ (ng_ hg (bz_ BK129.out))
       have NB130_139 := A_ (nl_ hg (bz_ BK130.out))
       have NB139_130 := A_ (ng_ hg (bz_ BK130.out))
       clear BK128 BK129
       clear BK130 HB
       have BK128 := n0_
       have BK129 := n1_
       have BK130 := n2_
       have HB := n3_
       have BK139 := n4_
       have GW139 := n5_
       clear n0_ n1_ n2_ n3_ n4_ n5_
       clear hb hbox hg
       refine hK.out _ _ ⟨bc_ BK128.out 0, bc_ BK128.out 1, bc_ BK128.out 2, bc_ BK129.out 0, bc_ BK129.out 1, bc_ BK129.out 2⟩ (fun hHeld => ?_)
       clear hK K
       refine norm_ (a' := ?_) ?_ ?_
       rotate_left
       ·show Act.put _ (some 7) _ = _
        simp only [Act.put, x1_, x2_, x3_, i64_w, i32_w]
        rfl
       exact norm_ (by simp only [putAll, Act.put, List.setIfInBounds_toArray, List.set_cons_zero, List.set_cons_succ]) (hCont (gb139) _ ⟨hHeld, (bz_ BK128.out), (bz_ BK129.out), (bz_ BK130.out), (bz_ BK139.out), GW139.out, GE139.out, NB128_139.out, NB139_128.out, NB129_139.out, NB139_129.out, NB130_139.out, NB139_130.out, (by repeat (first | (with_reducible first | exact HB.out | apply b1_ | apply b2_ | apply b3_ | apply c_ GE128 | apply c_ GE129 | apply c_ GE130 | apply c_ GE139) | exact HB.out))⟩)
      ·skip
       refine box_step ?hg (N := 7) ?hd (cs := #[.int .i64 0, .int .i64 0]) (t := 64) ?hr ?_; (case hd => rfl); (case hg => rfl); (case hr => first | (go_simp; done) | (go_simp; rfl))
       intro gb139 hg w23 hbox hb
       have n0_ := A_ (blk_below (bz_ BK128.out) hb)
       have n1_ := A_ (blk_below (bz_ BK129.out) hb)
       have n2_ := A_ (blk_below (bz_ BK130.out) hb)
       have n3_ := A_ (below_step (by repeat (first | (with_reducible first | exact HB.out | apply b1_ | apply b2_ | apply b3_ | apply c_ GE128 | apply c_ GE129 | apply c_ GE130) | exact HB.out)) hb)
       have n4_ := A_ (hbox)
       have n5_ := A_ (ge_ hg)
       have GE139 := n5_
       have NB128_139 := A_ (nl_ hg (bz_ BK128.out))
       have NB139_128 := A_ (ng_ hg (bz_ BK128.out))
       have NB129_139 := A_ (nl_ hg (bz_ BK129.out))
       have NB139_129 := A_ (ng_ hg (bz_ BK129.out))
       have NB130_139 := A_ (nl_ hg (bz_ BK130.out))
       have NB139_130 := A_ (ng_ hg (bz_ BK130.out))
       clear BK128 BK129
       clear BK130 HB
       have BK128 := n0_
       have BK129 := n1_
       have BK130 := n2_
       have HB := n3_
       have BK139 := n4_
       have GW139 := n5_
       clear n0_ n1_ n2_ n3_ n4_ n5_
       clear hb hbox hg
       refine hK.out _ _ ⟨bc_ BK128.out 0, bc_ BK128.out 1, bc_ BK128.out 2, bc_ BK129.out 0, bc_ BK129.out 1, bc_ BK129.out 2⟩ (fun hHeld => ?_)
       clear hK K
       refine norm_ (a' := ?_) ?_ ?_
       rotate_left
       ·show Act.put _ (some 7) _ = _
        simp only [Act.put, x1_, x2_, x3_, i64_w, i32_w]
        rfl
       refine one_ (i := 5) (N := some 21) #[true, true, true, true, true, true, false, false, false, true, false, false] rfl rfl (one_of HT_.out (by kernel_rfl)) (by decide) (fun K hK => ?_)
       refine goes_ Try.func56 (by kernel_rfl) rfl #[.int .i64 a0, .agg #[.int .i64 t132, .int .i64 t133], .agg #[.int .i64 t134, .int .i64 t135]] (by rfl) rfl rfl (by (try simp only [List.map_toArray, List.map_cons, List.map_nil]); first | done | rfl) ?_
       with_reducible refine (spec_PairMeet.calls a0 t132 t133 t134 t135 t136 t137 true _ A8.out).mono ?_
       rintro e w24 ⟨rfl, hb⟩
       refine ⟨_, rfl, ?_⟩
       have n0_ := A_ (blk_below (bz_ BK128.out) hb)
       have n1_ := A_ (blk_below (bz_ BK129.out) hb)
       have n2_ := A_ (blk_below (bz_ BK130.out) hb)
       have n3_ := A_ (blk_below (bz_ BK139.out) hb)
       have n4_ := A_ (below_step (by repeat (first | (with_reducible first | exact HB.out | apply b1_ | apply b2_ | apply b3_ | apply c_ GE128 | apply c_ GE129 | apply c_ GE130 | apply c_ GE139) | exact HB.out)) hb)
       clear BK128 BK129
       clear BK130 BK139 HB
       have BK128 := n0_
       have BK129 := n1_
       have BK130 := n2_
       have BK139 := n3_
       have HB := n4_
       clear n0_ n1_ n2_ n3_ n4_
       (try clear hb)
       (try clear hb2)
       (try clear hk)
       (try clear hi)
       refine hK.out _ _ ⟨bc_ BK128.out 0, bc_ BK128.out 1, bc_ BK128.out 2, bc_ BK129.out 0, bc_ BK129.out 1, bc_ BK129.out 2⟩ (fun hHeld => ?_)
       clear hK K
       refine norm_ (a' := ?_) ?_ ?_
       rotate_left
       ·show Act.put _ (some 21) _ = _
        simp only [Act.put, x1_, x2_, x3_, i64_w, i32_w]
        rfl
       refine pure_ (i := 6) (N := some 15) (v := ?_) (a' := ?_) #[true, true, true, true, true, true, true, false, false, true, false, false] rfl rfl (any_of HT_.out (by kernel_rfl)) (fun _ _ _ h => h) (Or.inl ⟨by rfl, ?_⟩) ?_ ?_
       rotate_left
       ·intro w'
        go_simp
        with_reducible rfl
       rotate_left
       ·simp only [Act.put, x1_, x2_, x3_, i64_w, i32_w]
        rfl
       refine pure_ (i := 7) (N := some 22) (v := ?_) (a' := ?_) #[true, true, true, true, true, true, true, true, false, true, false, false] rfl rfl (any_of HT_.out (by kernel_rfl)) (fun _ _ _ h => h) (Or.inl ⟨by rfl, ?_⟩) ?_ ?_
       rotate_left
       ·intro w'
        go_simp
        with_reducible rfl
       rotate_left
       ·simp only [Act.put, x1_, x2_, x3_, i64_w, i32_w]
        rfl
       refine pure_ (i := 8) (N := some 23) (v := ?_) (a' := ?_) #[true, true, true, true, true, true, true, true, true, true, false, false] rfl rfl (any_of HT_.out (by kernel_rfl)) (fun _ _ _ h => h) (Or.inl ⟨by rfl, ?_⟩) ?_ ?_
       rotate_left
       ·intro w'
        go_simp
        with_reducible rfl
       rotate_left
       ·simp only [Act.put, x1_, x2_, x3_, i64_w, i32_w]
        rfl
       exact norm_ (by simp only [putAll, Act.put, List.setIfInBounds_toArray, List.set_cons_zero, List.set_cons_succ]) (hCont (gb139) _ ⟨hHeld, (bz_ BK128.out), (bz_ BK129.out), (bz_ BK130.out), (bz_ BK139.out), GW139.out, GE139.out, NB128_139.out, NB139_128.out, NB129_139.out, NB139_129.out, NB130_139.out, NB139_130.out, (by repeat (first | (with_reducible first | exact HB.out | apply b1_ | apply b2_ | apply b3_ | apply c_ GE128 | apply c_ GE129 | apply c_ GE130 | apply c_ GE139) | exact HB.out))⟩)
     ·skip
      refine box_step ?hg (N := 7) ?hd (cs := #[.int .i64 0, .int .i64 0]) (t := 64) ?hr ?_; (case hd => rfl); (case hg => rfl); (case hr => first | (go_simp; done) | (go_simp; rfl))
      intro gb139 hg w22 hbox hb
      have n0_ := A_ (blk_below (bz_ BK128.out) hb)
      have n1_ := A_ (blk_below (bz_ BK129.out) hb)
      have n2_ := A_ (blk_below (bz_ BK130.out) hb)
      have n3_ := A_ (below_step (by repeat (first | (with_reducible first | exact HB.out | apply b1_ | apply b2_ | apply b3_ | apply c_ GE128 | apply c_ GE129 | apply c_ GE130) | exact HB.out)) hb)
      have n4_ := A_ (hbox)
      have n5_ := A_ (ge_ hg)
      have GE139 := n5_
      have NB128_139 := A_ (nl_ hg (bz_ BK128.out))
      have NB139_128 := A_ (ng_ hg (bz_ BK128.out))
      have NB129_139 := A_ (nl_ hg (bz_ BK129.out))
      have NB139_129 := A_ (ng_ hg (bz_ BK129.out))
      have NB130_139 := A_ (nl_ hg (bz_ BK130.out))
      have NB139_130 := A_ (ng_ hg (bz_ BK130.out))
      clear BK128 BK129
      clear BK130 HB
      have BK128 := n0_
      have BK129 := n1_
      have BK130 := n2_
      have HB := n3_
      have BK139 := n4_
      have GW139 := n5_
      clear n0_ n1_ n2_ n3_ n4_ n5_
      clear hb hbox hg
      refine hK.out _ _ ⟨bc_ BK128.out 0, bc_ BK128.out 1, bc_ BK128.out 2, bc_ BK129.out 0, bc_ BK129.out 1, bc_ BK129.out 2⟩ (fun hHeld => ?_)
      clear hK K
      refine norm_ (a' := ?_) ?_ ?_
      rotate_left
      ·show Act.put _ (some 7) _ = _
       simp only [Act.put, x1_, x2_, x3_, i64_w, i32_w]
       rfl
      refine one_ (i := 4) (N := some 20) #[true, true, true, true, true, false, false, false, false, true, false, false] rfl rfl (one_of HT_.out (by kernel_rfl)) (by decide) (fun K hK => ?_)
      refine goes_ Try.func64 (by kernel_rfl) rfl #[.agg #[.bool a2_0, .int .i64 a2_1, .int .i64 a2_2]] (by rfl) rfl rfl (by (try simp only [List.map_toArray, List.map_cons, List.map_nil]); first | done | rfl) ?_
      with_reducible refine (spec_l9Pair.calls a2_0 a2_1 a2_2 t134 t135 _ A7.out).mono ?_
      rintro e w23 ⟨rfl, hb⟩
      refine ⟨_, rfl, ?_⟩
      have n0_ := A_ (blk_below (bz_ BK128.out) hb)
      have n1_ := A_ (blk_below (bz_ BK129.out) hb)
      have n2_ := A_ (blk_below (bz_ BK130.out) hb)
      have n3_ := A_ (blk_below (bz_ BK139.out) hb)
      have n4_ := A_ (below_step (by repeat (first | (with_reducible first | exact HB.out | apply b1_ | apply b2_ | apply b3_ | apply c_ GE128 | apply c_ GE129 | apply c_ GE130 | apply c_ GE139) | exact HB.out)) hb)
      clear BK128 BK129
      clear BK130 BK139 HB
      have BK128 := n0_
      have BK129 := n1_
      have BK130 := n2_
      have BK139 := n3_
      have HB := n4_
      clear n0_ n1_ n2_ n3_ n4_
      (try clear hb)
      (try clear hb2)
      (try clear hk)
      (try clear hi)
      refine hK.out _ _ ⟨bc_ BK128.out 0, bc_ BK128.out 1, bc_ BK128.out 2, bc_ BK129.out 0, bc_ BK129.out 1, bc_ BK129.out 2⟩ (fun hHeld => ?_)
      clear hK K
      refine norm_ (a' := ?_) ?_ ?_
      rotate_left
      ·show Act.put _ (some 20) _ = _
       simp only [Act.put, x1_, x2_, x3_, i64_w, i32_w]
       rfl
      refine one_ (i := 5) (N := some 21) #[true, true, true, true, true, true, false, false, false, true, false, false] rfl rfl (one_of HT_.out (by kernel_rfl)) (by decide) (fun K hK => ?_)
      refine goes_ Try.func56 (by kernel_rfl) rfl #[.int .i64 a0, .agg #[.int .i64 t132, .int .i64 t133], .agg #[.int .i64 t134, .int .i64 t135]] (by rfl) rfl rfl (by (try simp only [List.map_toArray, List.map_cons, List.map_nil]); first | done | rfl) ?_
      with_reducible refine (spec_PairMeet.calls a0 t132 t133 t134 t135 t136 t137 true _ A8.out).mono ?_
      rintro e w24 ⟨rfl, hb⟩
      refine ⟨_, rfl, ?_⟩
      have n0_ := A_ (blk_below (bz_ BK128.out) hb)
      have n1_ := A_ (blk_below (bz_ BK129.out) hb)
      have n2_ := A_ (blk_below (bz_ BK130.out) hb)
      have n3_ := A_ (blk_below (bz_ BK139.out) hb)
      have n4_ := A_ (below_step (by repeat (first | (with_reducible first | exact HB.out | apply b1_ | apply b2_ | apply b3_ | apply c_ GE128 | apply c_ GE129 | apply c_ GE130 | apply c_ GE139) | exact HB.out)) hb)
      clear BK128 BK129
      clear BK130 BK139 HB
      have BK128 := n0_
      have BK129 := n1_
      have BK130 := n2_
      have BK139 := n3_
      have HB := n4_
      clear n0_ n1_ n2_ n3_ n4_
      (try clear hb)
      (try clear hb2)
      (try clear hk)
      (try clear hi)
      refine hK.out _ _ ⟨bc_ BK128.out 0, bc_ BK128.out 1, bc_ BK128.out 2, bc_ BK129.out 0, bc_ BK129.out 1, bc_ BK129.out 2⟩ (fun hHeld => ?_)
      clear hK K
      refine norm_ (a' := ?_) ?_ ?_
      rotate_left
      ·show Act.put _ (some 21) _ = _
       simp only [Act.put, x1_, x2_, x3_, i64_w, i32_w]
       rfl
      refine pure_ (i := 6) (N := some 15) (v := ?_) (a' := ?_) #[true, true, true, true, true, true, true, false, false, true, false, false] rfl rfl (any_of HT_.out (by kernel_rfl)) (fun _ _ _ h => h) (Or.inl ⟨by rfl, ?_⟩) ?_ ?_
      rotate_left
      ·intro w'
       go_simp
       with_reducible rfl
      rotate_left
      ·simp only [Act.put, x1_, x2_, x3_, i64_w, i32_w]
       rfl
      refine pure_ (i := 7) (N := some 22) (v := ?_) (a' := ?_) #[true, true, true, true, true, true, true, true, false, true, false, false] rfl rfl (any_of HT_.out (by kernel_rfl)) (fun _ _ _ h => h) (Or.inl ⟨by rfl, ?_⟩) ?_ ?_
      rotate_left
      ·intro w'
       go_simp
       with_reducible rfl
      rotate_left
      ·simp only [Act.put, x1_, x2_, x3_, i64_w, i32_w]
       rfl
      refine pure_ (i := 8) (N := some 23) (v := ?_) (a' := ?_) #[true, true, true, true, true, true, true, true, true, true, false, false] rfl rfl (any_of HT_.out (by kernel_rfl)) (fun _ _ _ h => h) (Or.inl ⟨by rfl, ?_⟩) ?_ ?_
      rotate_left
      ·intro w'
       go_simp
       with_reducible rfl
      rotate_left
      ·simp only [Act.put, x1_, x2_, x3_, i64_w, i32_w]
       rfl
      exact norm_ (by simp only [putAll, Act.put, List.setIfInBounds_toArray, List.set_cons_zero, List.set_cons_succ]) (hCont (gb139) _ ⟨hHeld, (bz_ BK128.out), (bz_ BK129.out), (bz_ BK130.out), (bz_ BK139.out), GW139.out, GE139.out, NB128_139.out, NB139_128.out, NB129_139.out, NB139_129.out, NB130_139.out, NB139_130.out, (by repeat (first | (with_reducible first | exact HB.out | apply b1_ | apply b2_ | apply b3_ | apply c_ GE128 | apply c_ GE129 | apply c_ GE130 | apply c_ GE139) | exact HB.out))⟩)
    ·skip
     refine box_step ?hg (N := 7) ?hd (cs := #[.int .i64 0, .int .i64 0]) (t := 64) ?hr ?_; (case hd => rfl); (case hg => rfl); (case hr => first | (go_simp; done) | (go_simp; rfl))
     intro gb139 hg w21 hbox hb
     have n0_ := A_ (blk_below (bz_ BK128.out) hb)
     have n1_ := A_ (blk_below (bz_ BK129.out) hb)
     have n2_ := A_ (blk_below (bz_ BK130.out) hb)
     have n3_ := A_ (below_step (by repeat (first | (with_reducible first | exact HB.out | apply b1_ | apply b2_ | apply b3_ | apply c_ GE128 | apply c_ GE129 | apply c_ GE130) | exact HB.out)) hb)
     have n4_ := A_ (hbox)
     have n5_ := A_ (ge_ hg)
     have GE139 := n5_
     have NB128_139 := A_ (nl_ hg (bz_ BK128.out))
     have NB139_128 := A_ (ng_ hg (bz_ BK128.out))
     have NB129_139 := A_ (nl_ hg (bz_ BK129.out))
     have NB139_129 := A_ (ng_ hg (bz_ BK129.out))
     have NB130_139 := A_ (nl_ hg (bz_ BK130.out))
     have NB139_130 := A_ (ng_ hg (bz_ BK130.out))
     clear BK128 BK129
     clear BK130 HB
     have BK128 := n0_
     have BK129 := n1_
     have BK130 := n2_
     have HB := n3_
     have BK139 := n4_
     have GW139 := n5_
     clear n0_ n1_ n2_ n3_ n4_ n5_
     clear hb hbox hg
     refine hK.out _ _ ⟨bc_ BK128.out 0, bc_ BK128.out 1, bc_ BK128.out 2, bc_ BK129.out 0, bc_ BK129.out 1, bc_ BK129.out 2⟩ (fun hHeld => ?_)
     clear hK K
     refine norm_ (a' := ?_) ?_ ?_
     rotate_left
     ·show Act.put _ (some 7) _ = _
      simp only [Act.put, x1_, x2_, x3_, i64_w, i32_w]
      rfl
     refine one_ (i := 2) (N := some 18) #[true, true, true, true, false, false, false, false, false, true, false, false] rfl rfl (one_of HT_.out (by kernel_rfl)) (by decide) (fun K hK => ?_)
     refine goes_ Try.func64 (by kernel_rfl) rfl #[.agg #[.bool a1_0, .int .i64 a1_1, .int .i64 a1_2]] (by rfl) rfl rfl (by (try simp only [List.map_toArray, List.map_cons, List.map_nil]); first | done | rfl) ?_
     with_reducible refine (spec_l9Pair.calls a1_0 a1_1 a1_2 t132 t133 _ A6.out).mono ?_
     rintro e w22 ⟨rfl, hb⟩
     refine ⟨_, rfl, ?_⟩
     have n0_ := A_ (blk_below (bz_ BK128.out) hb)
     have n1_ := A_ (blk_below (bz_ BK129.out) hb)
     have n2_ := A_ (blk_below (bz_ BK130.out) hb)
     have n3_ := A_ (blk_below (bz_ BK139.out) hb)
     have n4_ := A_ (below_step (by repeat (first | (with_reducible first | exact HB.out | apply b1_ | apply b2_ | apply b3_ | apply c_ GE128 | apply c_ GE129 | apply c_ GE130 | apply c_ GE139) | exact HB.out)) hb)
     clear BK128 BK129
     clear BK130 BK139 HB
     have BK128 := n0_
     have BK129 := n1_
     have BK130 := n2_
     have BK139 := n3_
     have HB := n4_
     clear n0_ n1_ n2_ n3_ n4_
     (try clear hb)
     (try clear hb2)
     (try clear hk)
     (try clear hi)
     refine hK.out _ _ ⟨bc_ BK128.out 0, bc_ BK128.out 1, bc_ BK128.out 2, bc_ BK129.out 0, bc_ BK129.out 1, bc_ BK129.out 2⟩ (fun hHeld => ?_)
     clear hK K
     refine norm_ (a' := ?_) ?_ ?_
     rotate_left
     ·show Act.put _ (some 18) _ = _
      simp only [Act.put, x1_, x2_, x3_, i64_w, i32_w]
      rfl
     refine one_ (i := 4) (N := some 20) #[true, true, true, true, true, false, false, false, false, true, false, false] rfl rfl (one_of HT_.out (by kernel_rfl)) (by decide) (fun K hK => ?_)
     refine goes_ Try.func64 (by kernel_rfl) rfl #[.agg #[.bool a2_0, .int .i64 a2_1, .int .i64 a2_2]] (by rfl) rfl rfl (by (try simp only [List.map_toArray, List.map_cons, List.map_nil]); first | done | rfl) ?_
     with_reducible refine (spec_l9Pair.calls a2_0 a2_1 a2_2 t134 t135 _ A7.out).mono ?_
     rintro e w23 ⟨rfl, hb⟩
     refine ⟨_, rfl, ?_⟩
     have n0_ := A_ (blk_below (bz_ BK128.out) hb)
     have n1_ := A_ (blk_below (bz_ BK129.out) hb)
     have n2_ := A_ (blk_below (bz_ BK130.out) hb)
     have n3_ := A_ (blk_below (bz_ BK139.out) hb)
     have n4_ := A_ (below_step (by repeat (first | (with_reducible first | exact HB.out | apply b1_ | apply b2_ | apply b3_ | apply c_ GE128 | apply c_ GE129 | apply c_ GE130 | apply c_ GE139) | exact HB.out)) hb)
     clear BK128 BK129
     clear BK130 BK139 HB
     have BK128 := n0_
     have BK129 := n1_
     have BK130 := n2_
     have BK139 := n3_
     have HB := n4_
     clear n0_ n1_ n2_ n3_ n4_
     (try clear hb)
     (try clear hb2)
     (try clear hk)
     (try clear hi)
     refine hK.out _ _ ⟨bc_ BK128.out 0, bc_ BK128.out 1, bc_ BK128.out 2, bc_ BK129.out 0, bc_ BK129.out 1, bc_ BK129.out 2⟩ (fun hHeld => ?_)
     clear hK K
     refine norm_ (a' := ?_) ?_ ?_
     rotate_left
     ·show Act.put _ (some 20) _ = _
      simp only [Act.put, x1_, x2_, x3_, i64_w, i32_w]
      rfl
     refine one_ (i := 5) (N := some 21) #[true, true, true, true, true, true, false, false, false, true, false, false] rfl rfl (one_of HT_.out (by kernel_rfl)) (by decide) (fun K hK => ?_)
     refine goes_ Try.func56 (by kernel_rfl) rfl #[.int .i64 a0, .agg #[.int .i64 t132, .int .i64 t133], .agg #[.int .i64 t134, .int .i64 t135]] (by rfl) rfl rfl (by (try simp only [List.map_toArray, List.map_cons, List.map_nil]); first | done | rfl) ?_
     with_reducible refine (spec_PairMeet.calls a0 t132 t133 t134 t135 t136 t137 true _ A8.out).mono ?_
     rintro e w24 ⟨rfl, hb⟩
     refine ⟨_, rfl, ?_⟩
     have n0_ := A_ (blk_below (bz_ BK128.out) hb)
     have n1_ := A_ (blk_below (bz_ BK129.out) hb)
     have n2_ := A_ (blk_below (bz_ BK130.out) hb)
     have n3_ := A_ (blk_below (bz_ BK139.out) hb)
     have n4_ := A_ (below_step (by repeat (first | (with_reducible first | exact HB.out | apply b1_ | apply b2_ | apply b3_ | apply c_ GE128 | apply c_ GE129 | apply c_ GE130 | apply c_ GE139) | exact HB.out)) hb)
     clear BK128 BK129
     clear BK130 BK139 HB
     have BK128 := n0_
     have BK129 := n1_
     have BK130 := n2_
     have BK139 := n3_
     have HB := n4_
     clear n0_ n1_ n2_ n3_ n4_
     (try clear hb)
     (try clear hb2)
     (try clear hk)
     (try clear hi)
     refine hK.out _ _ ⟨bc_ BK128.out 0, bc_ BK128.out 1, bc_ BK128.out 2, bc_ BK129.out 0, bc_ BK129.out 1, bc_ BK129.out 2⟩ (fun hHeld => ?_)
     clear hK K
     refine norm_ (a' := ?_) ?_ ?_
     rotate_left
     ·show Act.put _ (some 21) _ = _
      simp only [Act.put, x1_, x2_, x3_, i64_w, i32_w]
      rfl
     refine pure_ (i := 6) (N := some 15) (v := ?_) (a' := ?_) #[true, true, true, true, true, true, true, false, false, true, false, false] rfl rfl (any_of HT_.out (by kernel_rfl)) (fun _ _ _ h => h) (Or.inl ⟨by rfl, ?_⟩) ?_ ?_
     rotate_left
     ·intro w'
      go_simp
      with_reducible rfl
     rotate_left
     ·simp only [Act.put, x1_, x2_, x3_, i64_w, i32_w]
      rfl
     refine pure_ (i := 7) (N := some 22) (v := ?_) (a' := ?_) #[true, true, true, true, true, true, true, true, false, true, false, false] rfl rfl (any_of HT_.out (by kernel_rfl)) (fun _ _ _ h => h) (Or.inl ⟨by rfl, ?_⟩) ?_ ?_
     rotate_left
     ·intro w'
      go_simp
      with_reducible rfl
     rotate_left
     ·simp only [Act.put, x1_, x2_, x3_, i64_w, i32_w]
      rfl
     refine pure_ (i := 8) (N := some 23) (v := ?_) (a' := ?_) #[true, true, true, true, true, true, true, true, true, true, false, false] rfl rfl (any_of HT_.out (by kernel_rfl)) (fun _ _ _ h => h) (Or.inl ⟨by rfl, ?_⟩) ?_ ?_
     rotate_left
     ·intro w'
      go_simp
      with_reducible rfl
     rotate_left
     ·simp only [Act.put, x1_, x2_, x3_, i64_w, i32_w]
      rfl
     exact norm_ (by simp only [putAll, Act.put, List.setIfInBounds_toArray, List.set_cons_zero, List.set_cons_succ]) (hCont (gb139) _ ⟨hHeld, (bz_ BK128.out), (bz_ BK129.out), (bz_ BK130.out), (bz_ BK139.out), GW139.out, GE139.out, NB128_139.out, NB139_128.out, NB129_139.out, NB139_129.out, NB130_139.out, NB139_130.out, (by repeat (first | (with_reducible first | exact HB.out | apply b1_ | apply b2_ | apply b3_ | apply c_ GE128 | apply c_ GE129 | apply c_ GE130 | apply c_ GE139) | exact HB.out))⟩)
   rintro gb139 w25 ⟨hS_, h0_, h1_, h2_, h3_, h4_, h5_, h6_, h7_, h8_, h9_, h10_, h11_, h12_⟩
   have n0_ : Aside0 (w25.heap[gb128]? = some (.cells #[.bool a1_0, .int .i64 a1_1, .int .i64 a1_2] 24 (0, 0))) := ⟨h0_⟩
   have n1_ : Aside0 (w25.heap[gb129]? = some (.cells #[.bool a2_0, .int .i64 a2_1, .int .i64 a2_2] 24 (0, 0))) := ⟨h1_⟩
   have n2_ : Aside0 (w25.heap[gb130]? = some (.cells #[.bool false, .int .i64 0, .int .i64 0] 24 (0, 0))) := ⟨h2_⟩
   have n3_ : Aside0 (w25.heap[gb139]? = some (.cells #[.int .i64 0, .int .i64 0] 64 (0, 0))) := ⟨h3_⟩
   have GW139 : Aside0 (w.heap.size ≤ gb139) := ⟨h4_⟩
   have GE139 : Aside0 (w.heap.size ≤ gb139) := ⟨h5_⟩
   have NB128_139 := A_ h6_
   have NB139_128 := A_ h7_
   have NB129_139 := A_ h8_
   have NB139_129 := A_ h9_
   have NB130_139 := A_ h10_
   have NB139_130 := A_ h11_
   have n12_ : Aside0 (Below w.heap.size w w25) := ⟨h12_⟩
   clear BK128 BK129
   clear BK130 HB
   clear h0_ h1_ h2_ h3_ h4_ h5_ h6_ h7_ h8_ h9_ h10_ h11_ h12_
   have BK128 := n0_
   have BK129 := n1_
   have BK130 := n2_
   have BK139 := n3_
   have HB := n12_
   clear n0_ n1_ n2_ n3_ n12_
   have hHeld : w25.cell? ⟨gb128, 0, none⟩ = some (.bool a1_0) ∧ w25.cell? ⟨gb128, 1, none⟩ = some (.int .i64 a1_1) ∧ w25.cell? ⟨gb128, 2, none⟩ = some (.int .i64 a1_2) ∧ w25.cell? ⟨gb129, 0, none⟩ = some (.bool a2_0) ∧ w25.cell? ⟨gb129, 1, none⟩ = some (.int .i64 a2_1) ∧ w25.cell? ⟨gb129, 2, none⟩ = some (.int .i64 a2_2) := hS_
   refine norm_ (a' := ?_) ?_ ?_
   rotate_left
   ·simp only [putAll, Act.put, List.setIfInBounds_toArray, List.set_cons_zero, List.set_cons_succ]
    rfl
   refine one_ (i := 10) (N := none) #[true, true, true, true, true, true, true, true, true, true, true, false] rfl rfl (one_of HT_.out (by kernel_rfl)) (by decide) (fun K hK => ?_)
   have hs26 : w25.cell? ⟨gb139, 0, none⟩ = some (.int .i64 0) := bc_ BK139.out 0
   have hfs26 := blk_frozen BK139.out 0
   have hns26_0 := NB128_139.out
   have hns26_1 := NB129_139.out
   have hns26_2 := NB130_139.out
   have hms26_0 := NB139_128.out
   have hms26_1 := NB139_129.out
   have hms26_2 := NB139_130.out
   have hs27 : w25.cell? ⟨gb139, 1, none⟩ = some (.int .i64 0) := bc_ BK139.out 1
   have hfs27 := blk_frozen BK139.out 1
   have hns27_0 := NB128_139.out
   have hns27_1 := NB129_139.out
   have hns27_2 := NB130_139.out
   have hms27_0 := NB139_128.out
   have hms27_1 := NB139_129.out
   have hms27_2 := NB139_130.out
   refine skip_ (w1 := ?_) (by rfl) rfl ?_ ?_
   rotate_left
   ·go_simp
    rfl
   refine hK.out _ _ ⟨((cell_far (p := ⟨gb139, _, none⟩) NB128_139.out _).trans (((cell_far (p := ⟨gb139, _, none⟩) NB128_139.out _).trans (hHeld.1)))), ((cell_far (p := ⟨gb139, _, none⟩) NB128_139.out _).trans (((cell_far (p := ⟨gb139, _, none⟩) NB128_139.out _).trans (hHeld.2.1)))), ((cell_far (p := ⟨gb139, _, none⟩) NB128_139.out _).trans (((cell_far (p := ⟨gb139, _, none⟩) NB128_139.out _).trans (hHeld.2.2.1)))), ((cell_far (p := ⟨gb139, _, none⟩) NB129_139.out _).trans (((cell_far (p := ⟨gb139, _, none⟩) NB129_139.out _).trans (hHeld.2.2.2.1)))), ((cell_far (p := ⟨gb139, _, none⟩) NB129_139.out _).trans (((cell_far (p := ⟨gb139, _, none⟩) NB129_139.out _).trans (hHeld.2.2.2.2.1)))), ((cell_far (p := ⟨gb139, _, none⟩) NB129_139.out _).trans (((cell_far (p := ⟨gb139, _, none⟩) NB129_139.out _).trans (hHeld.2.2.2.2.2))))⟩ (fun hHeld => ?_)
   clear hK K
   refine pure_ (i := 11) (N := some 8) (v := ?_) (a' := ?_) #[true, true, true, true, true, true, true, true, true, true, true, true] rfl rfl (any_of HT_.out (by kernel_rfl)) (fun _ _ _ h => h) (Or.inl ⟨by rfl, ?_⟩) ?_ ?_
   rotate_left
   ·intro w'
    go_simp
    with_reducible rfl
   rotate_left
   ·simp only [Act.put, x1_, x2_, x3_, i64_w, i32_w]
    rfl
   refine done_ (done_of HT_.out (by kernel_rfl)) ?_
   have hnb28 := NB139_128.out
   have hnc28 := NB128_139.out
   have hnb29 := NB139_129.out
   have hnc29 := NB129_139.out
   have hnb30 := NB139_130.out
   have hnc30 := NB130_139.out
   have hcz31_0 : w25.cell? ⟨gb139, 0, none⟩ = some (.int .i64 0) := bc_ BK139.out 0
   have hcz31_1 : w25.cell? ⟨gb139, 1, none⟩ = some (.int .i64 0) := bc_ BK139.out 1
   have hfz31_0 := blk_frozen BK139.out 0
   have hfz31_1 := blk_frozen BK139.out 1
   try go_wp2_with (first | ((with_reducible refine gate_callee (f := 35) rfl ?_); refine goesL_ (some 31) rfl rfl Try.func35 (by kernel_rfl) rfl #[.int .i64 t136, .int .i64 t137] rfl (by (try simp only [List.map_toArray, List.map_cons, List.map_nil]); first | done | rfl) ?_; (with_reducible refine (spec_l9Of.calls t136 t137 t140 t141 t142 _ A10.out).mono ?_); rintro e w32 ⟨rfl, hb⟩; refine ⟨_, rfl, ?_⟩; have n0_ := A_ (blk_below (g := gb128) (o := .cells #[.bool a1_0, .int .i64 a1_1, .int .i64 a1_2] 24 (0, 0)) (by (with_reducible repeat (first | apply bn_ | apply bd_ | apply ba_)); refine blk_far ?_ NB128_139.out _; (with_reducible repeat (first | apply bn_ | apply bd_ | apply ba_)); refine blk_far ?_ NB128_139.out _; (with_reducible repeat (first | apply bn_ | apply bd_ | apply ba_)); exact BK128.out) hb); have n1_ := A_ (blk_below (g := gb129) (o := .cells #[.bool a2_0, .int .i64 a2_1, .int .i64 a2_2] 24 (0, 0)) (by (with_reducible repeat (first | apply bn_ | apply bd_ | apply ba_)); refine blk_far ?_ NB129_139.out _; (with_reducible repeat (first | apply bn_ | apply bd_ | apply ba_)); refine blk_far ?_ NB129_139.out _; (with_reducible repeat (first | apply bn_ | apply bd_ | apply ba_)); exact BK129.out) hb); have n2_ := A_ (blk_below (g := gb130) (o := .cells #[.bool false, .int .i64 0, .int .i64 0] 24 (0, 0)) (by (with_reducible repeat (first | apply bn_ | apply bd_ | apply ba_)); refine blk_far ?_ NB130_139.out _; (with_reducible repeat (first | apply bn_ | apply bd_ | apply ba_)); refine blk_far ?_ NB130_139.out _; (with_reducible repeat (first | apply bn_ | apply bd_ | apply ba_)); exact BK130.out) hb); have n3_ := A_ (blk_below (g := gb139) (o := .cells #[.int .i64 t136, .int .i64 t137] 64 (0, 0)) (by (with_reducible repeat (first | apply bn_ | apply bd_ | apply ba_)); refine blk_put (cs := #[.int .i64 t136, .int .i64 0]) ?_ 1 _ (by first | rfl | (simp [*]; done)); (with_reducible repeat (first | apply bn_ | apply bd_ | apply ba_)); refine blk_put (cs := #[.int .i64 0, .int .i64 0]) ?_ 0 _ (by first | rfl | (simp [*]; done)); (with_reducible repeat (first | apply bn_ | apply bd_ | apply ba_)); exact BK139.out) hb); have n4_ := A_ (below_step (by repeat (first | (with_reducible first | exact HB.out | apply b1_ | apply b2_ | apply b3_ | apply c_ GE128 | apply c_ GE129 | apply c_ GE130 | apply c_ GE139) | exact HB.out)) hb); clear BK128 BK129 BK130 BK139 HB; have BK128 := n0_; have BK129 := n1_; have BK130 := n2_; have BK139 := n3_; have HB := n4_; clear n0_ n1_ n2_ n3_ n4_; (try clear hb); (try clear hb2); (try clear hk); (try clear hi); have hcz33_0 : w32.cell? ⟨gb130, 0, none⟩ = some (.bool false) := bc_ BK130.out 0; have hcz33_1 : w32.cell? ⟨gb130, 1, none⟩ = some (.int .i64 0) := bc_ BK130.out 1; have hcz33_2 : w32.cell? ⟨gb130, 2, none⟩ = some (.int .i64 0) := bc_ BK130.out 2; have hfz33_0 := blk_frozen BK130.out 0; have hfz33_1 := blk_frozen BK130.out 1; have hfz33_2 := blk_frozen BK130.out 2))
   refine bodyPost_ret (results_cell_row rfl _ _ gb130 24 #[.bool t140, .int .i64 t141, .int .i64 t142] (0, 0) _ rfl (by (with_reducible repeat (first | apply bn_ | apply bd_ | apply ba_)); refine blk_put (cs := #[.bool t140, .int .i64 t141, .int .i64 0]) ?_ 2 _ (by first | rfl | (simp [*]; done)); (with_reducible repeat (first | apply bn_ | apply bd_ | apply ba_)); refine blk_put (cs := #[.bool t140, .int .i64 0, .int .i64 0]) ?_ 1 _ (by first | rfl | (simp [*]; done)); (with_reducible repeat (first | apply bn_ | apply bd_ | apply ba_)); refine blk_put (cs := #[.bool false, .int .i64 0, .int .i64 0]) ?_ 0 _ (by first | rfl | (simp [*]; done)); (with_reducible repeat (first | apply bn_ | apply bd_ | apply ba_)); exact BK130.out) Try.underlying24 rfl (by kernel_rfl)) rfl ?_
   exact ⟨by first | rfl | (simp [errW_none, errW_some] <;> rfl) | (simp [*, errW_none, errW_some] <;> rfl), by repeat (first | (with_reducible first | exact HB.out | apply b1_ | apply b2_ | apply b3_ | apply c_ GE128 | apply c_ GE129 | apply c_ GE130 | apply c_ GE139) | exact HB.out)⟩
  ·replace c9 := Bool.eq_false_iff.mpr c9
   subst c9
   have H1 : (some (false, 0, 0)) = some (r1, r2, r3) := by rw [if_neg (show ¬ (false = true) by decide)] at H; exact H
   clear H
   have H := H1
   clear H1
   simp only [Option.some.injEq, Prod.mk.injEq] at H
   obtain ⟨rfl, rfl, rfl⟩ := H
   go_enter Try.func34, Try.ntmps34
   try go_wp2_with (first | ((with_reducible refine gate_dst (N := 4) rfl ?_); refine box_event ?hg (N := 4) ?hd (cs := #[.bool a1_0, .int .i64 a1_1, .int .i64 a1_2]) (t := 24) ?hr ?_; (case hd => rfl); (case hg => rfl); (case hr => first | (go_simp; done) | (go_simp; rfl)); intro gb128 hg w34 hbox hb; have n0_ := A_ (below_step (by repeat (first | (with_reducible first | exact HB.out | apply b1_ | apply b2_ | apply b3_) | exact HB.out)) hb); have n1_ := A_ (hbox); have n2_ := A_ (ge_ hg); have n3_ := n2_; clear HB; have HB := n0_; have BK128 := n1_; have GW128 := n2_; have GE128 := n3_; clear n0_ n1_ n2_ n3_; clear hb hbox hg) | ((with_reducible refine gate_dst (N := 5) rfl ?_); refine box_event ?hg (N := 5) ?hd (cs := #[.bool a2_0, .int .i64 a2_1, .int .i64 a2_2]) (t := 24) ?hr ?_; (case hd => rfl); (case hg => rfl); (case hr => first | (go_simp; done) | (go_simp; rfl)); intro gb129 hg w35 hbox hb; have n0_ := A_ (blk_below (bz_ BK128.out) hb); have n1_ := A_ (below_step (by repeat (first | (with_reducible first | exact HB.out | apply b1_ | apply b2_ | apply b3_ | apply c_ GE128) | exact HB.out)) hb); have n2_ := A_ (hbox); have n3_ := A_ (ge_ hg); have n4_ := n3_; have n5_ := A_ (nl_ hg (bz_ BK128.out)); have n6_ := A_ (ng_ hg (bz_ BK128.out)); clear BK128 HB; have BK128 := n0_; have HB := n1_; have BK129 := n2_; have GW129 := n3_; have GE129 := n4_; have NB128_129 := n5_; have NB129_128 := n6_; clear n0_ n1_ n2_ n3_ n4_ n5_ n6_; clear hb hbox hg) | ((with_reducible refine gate_dst (N := 6) rfl ?_); refine box_event ?hg (N := 6) ?hd (cs := #[.bool false, .int .i64 0, .int .i64 0]) (t := 24) ?hr ?_; (case hd => rfl); (case hg => rfl); (case hr => first | (go_simp; done) | (go_simp; rfl)); intro gb130 hg w36 hbox hb; have n0_ := A_ (blk_below (bz_ BK128.out) hb); have n1_ := A_ (blk_below (bz_ BK129.out) hb); have n2_ := A_ (below_step (by repeat (first | (with_reducible first | exact HB.out | apply b1_ | apply b2_ | apply b3_ | apply c_ GE128 | apply c_ GE129) | exact HB.out)) hb); have n3_ := A_ (hbox); have n4_ := A_ (ge_ hg); have n5_ := n4_; have n6_ := A_ (nl_ hg (bz_ BK128.out)); have n7_ := A_ (ng_ hg (bz_ BK128.out)); have n8_ := A_ (nl_ hg (bz_ BK129.out)); have n9_ := A_ (ng_ hg (bz_ BK129.out)); clear BK128 BK129 HB; have BK128 := n0_; have BK129 := n1_; have HB := n2_; have BK130 := n3_; have GW130 := n4_; have GE130 := n5_; have NB128_130 := n6_; have NB130_128 := n7_; have NB129_130 := n8_; have NB130_129 := n9_; clear n0_ n1_ n2_ n3_ n4_ n5_ n6_ n7_ n8_ n9_; clear hb hbox hg; have hnb37 := NB128_129.out; have hnc37 := NB129_128.out; have hnb38 := NB128_130.out; have hnc38 := NB130_128.out; have hcz39_0 : w36.cell? ⟨gb128, 0, none⟩ = some (.bool a1_0) := bc_ BK128.out 0; have hcz39_1 : w36.cell? ⟨gb128, 1, none⟩ = some (.int .i64 a1_1) := bc_ BK128.out 1; have hcz39_2 : w36.cell? ⟨gb128, 2, none⟩ = some (.int .i64 a1_2) := bc_ BK128.out 2; have hfz39_0 := blk_frozen BK128.out 0; have hfz39_1 := blk_frozen BK128.out 1; have hfz39_2 := blk_frozen BK128.out 2; have hnb40 := NB129_130.out; have hnc40 := NB130_129.out; have hcz41_0 : w36.cell? ⟨gb129, 0, none⟩ = some (.bool a2_0) := bc_ BK129.out 0; have hcz41_1 : w36.cell? ⟨gb129, 1, none⟩ = some (.int .i64 a2_1) := bc_ BK129.out 1; have hcz41_2 : w36.cell? ⟨gb129, 2, none⟩ = some (.int .i64 a2_2) := bc_ BK129.out 2; have hfz41_0 := blk_frozen BK129.out 0; have hfz41_1 := blk_frozen BK129.out 1; have hfz41_2 := blk_frozen BK129.out 2) | ((with_reducible refine gate_callee (f := 32) rfl ?_); refine goesL_ (some 12) rfl rfl Try.func32 (by kernel_rfl) rfl #[.int .i64 a0, .agg #[.bool a1_0, .int .i64 a1_1, .int .i64 a1_2], .agg #[.bool a2_0, .int .i64 a2_1, .int .i64 a2_2]] rfl (by (try simp only [List.map_toArray, List.map_cons, List.map_nil]); first | done | rfl) ?_; (with_reducible refine (spec_l9Both.calls a0 a1_0 a1_1 a1_2 a2_0 a2_1 a2_2 true _ A4.out).mono ?_); rintro e w42 ⟨rfl, hb⟩; refine ⟨_, rfl, ?_⟩; have n0_ := A_ (blk_below (bz_ BK128.out) hb); have n1_ := A_ (blk_below (bz_ BK129.out) hb); have n2_ := A_ (blk_below (bz_ BK130.out) hb); have n3_ := A_ (below_step (by repeat (first | (with_reducible first | exact HB.out | apply b1_ | apply b2_ | apply b3_ | apply c_ GE128 | apply c_ GE129 | apply c_ GE130) | exact HB.out)) hb); clear BK128 BK129 BK130 HB; have BK128 := n0_; have BK129 := n1_; have BK130 := n2_; have HB := n3_; clear n0_ n1_ n2_ n3_; (try clear hb); (try clear hb2); (try clear hk); (try clear hi)))
   have n0_ := A_ (blk_drew BK128.out)
   have n1_ := A_ (blk_drew BK129.out)
   have n2_ := A_ (blk_drew BK130.out)
   have n3_ := A_ (below_drew1 HB.out)
   clear BK128 BK129
   clear BK130 HB
   have BK128 := n0_
   have BK129 := n1_
   have BK130 := n2_
   have HB := n3_
   clear n0_ n1_ n2_ n3_
   refine start_ (n := 12) (S := fun w' => w'.cell? ⟨gb128, 0, none⟩ = some (.bool a1_0) ∧ w'.cell? ⟨gb128, 1, none⟩ = some (.int .i64 a1_1) ∧ w'.cell? ⟨gb128, 2, none⟩ = some (.int .i64 a1_2) ∧ w'.cell? ⟨gb129, 0, none⟩ = some (.bool a2_0) ∧ w'.cell? ⟨gb129, 1, none⟩ = some (.int .i64 a2_1) ∧ w'.cell? ⟨gb129, 2, none⟩ = some (.int .i64 a2_2)) (ds := []) #[false, false, false, false, false, false, false, false, false, false, false, false] (by kernel_rfl) rfl rfl ⟨bc_ BK128.out 0, bc_ BK128.out 1, bc_ BK128.out 2, bc_ BK129.out 0, bc_ BK129.out 1, bc_ BK129.out 2⟩ (fun hHeld => ?_); refine with_tabW spec_SpanMeet.tab3 spec_SpanMeet.bits3 (fun HT_ HW_ => ?_)
   generalize w42.drew = w43 at BK128 BK129 BK130 HB hHeld ⊢
   refine pure_ (i := 0) (N := some 16) (v := ?_) (a' := ?_) #[true, false, false, false, false, false, false, false, false, false, false, false] rfl rfl (any_of HT_.out (by kernel_rfl)) (fun _ _ _ h => h) (Or.inl ⟨by rfl, ?_⟩) ?_ ?_
   rotate_left
   ·intro w'
    go_simp
    with_reducible rfl
   rotate_left
   ·simp only [Act.put, x1_, x2_, x3_, i64_w, i32_w]
    rfl
   refine take_ (i := 1) (N := some 17) (v := ?_) (a' := ?_) #[true, true, false, false, false, false, false, false, false, false, false, false] rfl rfl (take_ofW HT_.out HW_.out (by kernel_rfl)) (fun _ _ _ h => h) (Or.inl ⟨by rfl, ?_⟩) hHeld ?_ ?_
   rotate_left
   ·rintro w' ⟨s0, s1, s2, s3, s4, s5⟩
    go_simp
    with_reducible rfl
   rotate_left
   ·simp only [Act.put, x1_, x2_, x3_, i64_w, i32_w]
    rfl
   refine take_ (i := 3) (N := some 19) (v := ?_) (a' := ?_) #[true, true, false, true, false, false, false, false, false, false, false, false] rfl rfl (take_ofW HT_.out HW_.out (by kernel_rfl)) (fun _ _ _ h => h) (Or.inl ⟨by rfl, ?_⟩) hHeld ?_ ?_
   rotate_left
   ·rintro w' ⟨s0, s1, s2, s3, s4, s5⟩
    go_simp
    with_reducible rfl
   rotate_left
   ·simp only [Act.put, x1_, x2_, x3_, i64_w, i32_w]
    rfl
   refine join_ (σ := Nat) 2 #[true, true, true, true, true, true, true, true, true, true, false, false] (fun s_ => [(18, .agg #[.int .i64 t132, .int .i64 t133]), (20, .agg #[.int .i64 t134, .int .i64 t135]), (21, .tuple #[.agg #[.int .i64 t136, .int .i64 t137], .bool false]), (7, .pointer (some ⟨s_, 0, none⟩)), (15, .tuple #[.agg #[.int .i64 t136, .int .i64 t137], .bool false]), (22, .agg #[.int .i64 t136, .int .i64 t137]), (23, .bool false)]) (fun s_ w' => (w'.cell? ⟨gb128, 0, none⟩ = some (.bool a1_0) ∧ w'.cell? ⟨gb128, 1, none⟩ = some (.int .i64 a1_1) ∧ w'.cell? ⟨gb128, 2, none⟩ = some (.int .i64 a1_2) ∧ w'.cell? ⟨gb129, 0, none⟩ = some (.bool a2_0) ∧ w'.cell? ⟨gb129, 1, none⟩ = some (.int .i64 a2_1) ∧ w'.cell? ⟨gb129, 2, none⟩ = some (.int .i64 a2_2)) ∧ (w'.heap[gb128]? = some (.cells #[.bool a1_0, .int .i64 a1_1, .int .i64 a1_2] 24 (0, 0))) ∧ (w'.heap[gb129]? = some (.cells #[.bool a2_0, .int .i64 a2_1, .int .i64 a2_2] 24 (0, 0))) ∧ (w'.heap[gb130]? = some (.cells #[.bool false, .int .i64 0, .int .i64 0] 24 (0, 0))) ∧ (w'.heap[s_]? = some (.cells #[.int .i64 0, .int .i64 0] 64 (0, 0))) ∧ (w.heap.size ≤ s_) ∧ (w.heap.size ≤ s_) ∧ (gb128 ≠ s_) ∧ (s_ ≠ gb128) ∧ (gb129 ≠ s_) ∧ (s_ ≠ gb129) ∧ (gb130 ≠ s_) ∧ (s_ ≠ gb130) ∧ (Below w.heap.size w w')) ?_ ?_
   rotate_left
   ·intro hCont
    refine two_ (i := 2) (j := 9) (Ni := some 18) (Nj := some 7) #[true, true, true, true, false, false, false, false, false, false, false, false] #[true, true, false, true, false, false, false, false, false, true, false, false] rfl rfl rfl rfl (two_of HT_.out (by kernel_rfl)) (by decide) (by decide) (fun K hK => ?_) (fun K hK => ?_)
    ·skip
     refine goes_ Try.func64 (by kernel_rfl) rfl #[.agg #[.bool a1_0, .int .i64 a1_1, .int .i64 a1_2]] (by rfl) rfl rfl (by (try simp only [List.map_toArray, List.map_cons, List.map_nil]); first | done | rfl) ?_
     with_reducible refine (spec_l9Pair.calls a1_0 a1_1 a1_2 t132 t133 _ A6.out).mono ?_
     rintro e w44 ⟨rfl, hb⟩
     refine ⟨_, rfl, ?_⟩
     have n0_ := A_ (blk_below (bz_ BK128.out) hb)
     have n1_ := A_ (blk_below (bz_ BK129.out) hb)
     have n2_ := A_ (blk_below (bz_ BK130.out) hb)
     have n3_ := A_ (below_step (by repeat (first | (with_reducible first | exact HB.out | apply b1_ | apply b2_ | apply b3_ | apply c_ GE128 | apply c_ GE129 | apply c_ GE130) | exact HB.out)) hb)
     clear BK128 BK129
     clear BK130 HB
     have BK128 := n0_
     have BK129 := n1_
     have BK130 := n2_
     have HB := n3_
     clear n0_ n1_ n2_ n3_
     (try clear hb)
     (try clear hb2)
     (try clear hk)
     (try clear hi)
     refine hK.out _ _ ⟨bc_ BK128.out 0, bc_ BK128.out 1, bc_ BK128.out 2, bc_ BK129.out 0, bc_ BK129.out 1, bc_ BK129.out 2⟩ (fun hHeld => ?_)
     clear hK K
     refine norm_ (a' := ?_) ?_ ?_
     rotate_left
     ·show Act.put _ (some 18) _ = _
      simp only [Act.put, x1_, x2_, x3_, i64_w, i32_w]
      rfl
     refine two_ (i := 4) (j := 9) (Ni := some 20) (Nj := some 7) #[true, true, true, true, true, false, false, false, false, false, false, false] #[true, true, true, true, false, false, false, false, false, true, false, false] rfl rfl rfl rfl (two_of HT_.out (by kernel_rfl)) (by decide) (by decide) (fun K hK => ?_) (fun K hK => ?_)
     ·skip
      refine goes_ Try.func64 (by kernel_rfl) rfl #[.agg #[.bool a2_0, .int .i64 a2_1, .int .i64 a2_2]] (by rfl) rfl rfl (by (try simp only [List.map_toArray, List.map_cons, List.map_nil]); first | done | rfl) ?_
      with_reducible refine (spec_l9Pair.calls a2_0 a2_1 a2_2 t134 t135 _ A7.out).mono ?_
      rintro e w45 ⟨rfl, hb⟩
      refine ⟨_, rfl, ?_⟩
      have n0_ := A_ (blk_below (bz_ BK128.out) hb)
      have n1_ := A_ (blk_below (bz_ BK129.out) hb)
      have n2_ := A_ (blk_below (bz_ BK130.out) hb)
      have n3_ := A_ (below_step (by repeat (first | (with_reducible first | exact HB.out | apply b1_ | apply b2_ | apply b3_ | apply c_ GE128 | apply c_ GE129 | apply c_ GE130) | exact HB.out)) hb)
      clear BK128 BK129
      clear BK130 HB
      have BK128 := n0_
      have BK129 := n1_
      have BK130 := n2_
      have HB := n3_
      clear n0_ n1_ n2_ n3_
      (try clear hb)
      (try clear hb2)
      (try clear hk)
      (try clear hi)
      refine hK.out _ _ ⟨bc_ BK128.out 0, bc_ BK128.out 1, bc_ BK128.out 2, bc_ BK129.out 0, bc_ BK129.out 1, bc_ BK129.out 2⟩ (fun hHeld => ?_)
      clear hK K
      refine norm_ (a' := ?_) ?_ ?_
      rotate_left
      ·show Act.put _ (some 20) _ = _
       simp only [Act.put, x1_, x2_, x3_, i64_w, i32_w]
       rfl
      refine two_ (i := 5) (j := 9) (Ni := some 21) (Nj := some 7) #[true, true, true, true, true, true, false, false, false, false, false, false] #[true, true, true, true, true, false, false, false, false, true, false, false] rfl rfl rfl rfl (two_of HT_.out (by kernel_rfl)) (by decide) (by decide) (fun K hK => ?_) (fun K hK => ?_)
      ·skip
       refine goes_ Try.func56 (by kernel_rfl) rfl #[.int .i64 a0, .agg #[.int .i64 t132, .int .i64 t133], .agg #[.int .i64 t134, .int .i64 t135]] (by rfl) rfl rfl (by (try simp only [List.map_toArray, List.map_cons, List.map_nil]); first | done | rfl) ?_
       with_reducible refine (spec_PairMeet.calls a0 t132 t133 t134 t135 t136 t137 false _ A8.out).mono ?_
       rintro e w46 ⟨rfl, hb⟩
       refine ⟨_, rfl, ?_⟩
       have n0_ := A_ (blk_below (bz_ BK128.out) hb)
       have n1_ := A_ (blk_below (bz_ BK129.out) hb)
       have n2_ := A_ (blk_below (bz_ BK130.out) hb)
       have n3_ := A_ (below_step (by repeat (first | (with_reducible first | exact HB.out | apply b1_ | apply b2_ | apply b3_ | apply c_ GE128 | apply c_ GE129 | apply c_ GE130) | exact HB.out)) hb)
       clear BK128 BK129
       clear BK130 HB
       have BK128 := n0_
       have BK129 := n1_
       have BK130 := n2_
       have HB := n3_
       clear n0_ n1_ n2_ n3_
       (try clear hb)
       (try clear hb2)
       (try clear hk)
       (try clear hi)
       refine hK.out _ _ ⟨bc_ BK128.out 0, bc_ BK128.out 1, bc_ BK128.out 2, bc_ BK129.out 0, bc_ BK129.out 1, bc_ BK129.out 2⟩ (fun hHeld => ?_)
       clear hK K
       refine norm_ (a' := ?_) ?_ ?_
       rotate_left
       ·show Act.put _ (some 21) _ = _
        simp only [Act.put, x1_, x2_, x3_, i64_w, i32_w]
        rfl
       refine pure_ (i := 6) (N := some 15) (v := ?_) (a' := ?_) #[true, true, true, true, true, true, true, false, false, false, false, false] rfl rfl (any_of HT_.out (by kernel_rfl)) (fun _ _ _ h => h) (Or.inl ⟨by rfl, ?_⟩) ?_ ?_
       rotate_left
       ·intro w'
        go_simp
        with_reducible rfl
       rotate_left
       ·simp only [Act.put, x1_, x2_, x3_, i64_w, i32_w]
        rfl
       refine pure_ (i := 7) (N := some 22) (v := ?_) (a' := ?_) #[true, true, true, true, true, true, true, true, false, false, false, false] rfl rfl (any_of HT_.out (by kernel_rfl)) (fun _ _ _ h => h) (Or.inl ⟨by rfl, ?_⟩) ?_ ?_
       rotate_left
       ·intro w'
        go_simp
        with_reducible rfl
       rotate_left
       ·simp only [Act.put, x1_, x2_, x3_, i64_w, i32_w]
        rfl
       refine pure_ (i := 8) (N := some 23) (v := ?_) (a' := ?_) #[true, true, true, true, true, true, true, true, true, false, false, false] rfl rfl (any_of HT_.out (by kernel_rfl)) (fun _ _ _ h => h) (Or.inl ⟨by rfl, ?_⟩) ?_ ?_
       rotate_left
       ·intro w'
        go_simp
        with_reducible rfl
       rotate_left
       ·simp only [Act.put, x1_, x2_, x3_, i64_w, i32_w]
        rfl
       refine one_ (i := 9) (N := some 7) #[true, true, true, true, true, true, true, true, true, true, false, false] rfl rfl (one_of HT_.out (by kernel_rfl)) (by decide) (fun K hK => ?_)
       refine box_step ?hg (N := 7) ?hd (cs := #[.int .i64 0, .int .i64 0]) (t := 64) ?hr ?_; (case hd => rfl); (case hg => rfl); (case hr => first | (go_simp; done) | (go_simp; rfl))
       intro gb139 hg w47 hbox hb
       have n0_ := A_ (blk_below (bz_ BK128.out) hb)
       have n1_ := A_ (blk_below (bz_ BK129.out) hb)
       have n2_ := A_ (blk_below (bz_ BK130.out) hb)
       have n3_ := A_ (below_step (by repeat (first | (with_reducible first | exact HB.out | apply b1_ | apply b2_ | apply b3_ | apply c_ GE128 | apply c_ GE129 | apply c_ GE130) | exact HB.out)) hb)
       have n4_ := A_ (hbox)
       have n5_ := A_ (ge_ hg)
       have GE139 := n5_
       have NB128_139 := A_ (nl_ hg (bz_ BK128.out))
       have NB139_128 := A_ (ng_ hg (bz_ BK128.out))
       have NB129_139 := A_ (nl_ hg (bz_ BK129.out))
       have NB139_129 := A_ (ng_ hg (bz_ BK129.out))
       have NB130_139 := A_ (nl_ hg (bz_ BK130.out))
       have NB139_130 := A_ (ng_ hg (bz_ BK130.out))
       clear BK128 BK129
       clear BK130 HB
       have BK128 := n0_
       have BK129 := n1_
       have BK130 := n2_
       have HB := n3_
       have BK139 := n4_
       have GW139 := n5_
       clear n0_ n1_ n2_ n3_ n4_ n5_
       clear hb hbox hg
       refine hK.out _ _ ⟨bc_ BK128.out 0, bc_ BK128.out 1, bc_ BK128.out 2, bc_ BK129.out 0, bc_ BK129.out 1, bc_ BK129.out 2⟩ (fun hHeld => ?_)
       clear hK K
       refine norm_ (a' := ?_) ?_ ?_
       rotate_left
       ·show Act.put _ (some 7) _ = _
        simp only [Act.put, x1_, x2_, x3_, i64_w, i32_w]
        rfl
       exact norm_ (by simp only [putAll, Act.put, List.setIfInBounds_toArray, List.set_cons_zero, List.set_cons_succ]) (hCont (gb139) _ ⟨hHeld, (bz_ BK128.out), (bz_ BK129.out), (bz_ BK130.out), (bz_ BK139.out), GW139.out, GE139.out, NB128_139.out, NB139_128.out, NB129_139.out, NB139_129.out, NB130_139.out, NB139_130.out, (by repeat (first | (with_reducible first | exact HB.out | apply b1_ | apply b2_ | apply b3_ | apply c_ GE128 | apply c_ GE129 | apply c_ GE130 | apply c_ GE139) | exact HB.out))⟩)
      ·skip
       refine box_step ?hg (N := 7) ?hd (cs := #[.int .i64 0, .int .i64 0]) (t := 64) ?hr ?_; (case hd => rfl); (case hg => rfl); (case hr => first | (go_simp; done) | (go_simp; rfl))
       intro gb139 hg w46 hbox hb
       have n0_ := A_ (blk_below (bz_ BK128.out) hb)
       have n1_ := A_ (blk_below (bz_ BK129.out) hb)
       have n2_ := A_ (blk_below (bz_ BK130.out) hb)
       have n3_ := A_ (below_step (by repeat (first | (with_reducible first | exact HB.out | apply b1_ | apply b2_ | apply b3_ | apply c_ GE128 | apply c_ GE129 | apply c_ GE130) | exact HB.out)) hb)
       have n4_ := A_ (hbox)
       have n5_ := A_ (ge_ hg)
       have GE139 := n5_
       have NB128_139 := A_ (nl_ hg (bz_ BK128.out))
       have NB139_128 := A_ (ng_ hg (bz_ BK128.out))
       have NB129_139 := A_ (nl_ hg (bz_ BK129.out))
       have NB139_129 := A_ (ng_ hg (bz_ BK129.out))
       have NB130_139 := A_ (nl_ hg (bz_ BK130.out))
       have NB139_130 := A_ (ng_ hg (bz_ BK130.out))
       clear BK128 BK129
       clear BK130 HB
       have BK128 := n0_
       have BK129 := n1_
       have BK130 := n2_
       have HB := n3_
       have BK139 := n4_
       have GW139 := n5_
       clear n0_ n1_ n2_ n3_ n4_ n5_
       clear hb hbox hg
       refine hK.out _ _ ⟨bc_ BK128.out 0, bc_ BK128.out 1, bc_ BK128.out 2, bc_ BK129.out 0, bc_ BK129.out 1, bc_ BK129.out 2⟩ (fun hHeld => ?_)
       clear hK K
       refine norm_ (a' := ?_) ?_ ?_
       rotate_left
       ·show Act.put _ (some 7) _ = _
        simp only [Act.put, x1_, x2_, x3_, i64_w, i32_w]
        rfl
       refine one_ (i := 5) (N := some 21) #[true, true, true, true, true, true, false, false, false, true, false, false] rfl rfl (one_of HT_.out (by kernel_rfl)) (by decide) (fun K hK => ?_)
       refine goes_ Try.func56 (by kernel_rfl) rfl #[.int .i64 a0, .agg #[.int .i64 t132, .int .i64 t133], .agg #[.int .i64 t134, .int .i64 t135]] (by rfl) rfl rfl (by (try simp only [List.map_toArray, List.map_cons, List.map_nil]); first | done | rfl) ?_
       with_reducible refine (spec_PairMeet.calls a0 t132 t133 t134 t135 t136 t137 false _ A8.out).mono ?_
       rintro e w47 ⟨rfl, hb⟩
       refine ⟨_, rfl, ?_⟩
       have n0_ := A_ (blk_below (bz_ BK128.out) hb)
       have n1_ := A_ (blk_below (bz_ BK129.out) hb)
       have n2_ := A_ (blk_below (bz_ BK130.out) hb)
       have n3_ := A_ (blk_below (bz_ BK139.out) hb)
       have n4_ := A_ (below_step (by repeat (first | (with_reducible first | exact HB.out | apply b1_ | apply b2_ | apply b3_ | apply c_ GE128 | apply c_ GE129 | apply c_ GE130 | apply c_ GE139) | exact HB.out)) hb)
       clear BK128 BK129
       clear BK130 BK139 HB
       have BK128 := n0_
       have BK129 := n1_
       have BK130 := n2_
       have BK139 := n3_
       have HB := n4_
       clear n0_ n1_ n2_ n3_ n4_
       (try clear hb)
       (try clear hb2)
       (try clear hk)
       (try clear hi)
       refine hK.out _ _ ⟨bc_ BK128.out 0, bc_ BK128.out 1, bc_ BK128.out 2, bc_ BK129.out 0, bc_ BK129.out 1, bc_ BK129.out 2⟩ (fun hHeld => ?_)
       clear hK K
       refine norm_ (a' := ?_) ?_ ?_
       rotate_left
       ·show Act.put _ (some 21) _ = _
        simp only [Act.put, x1_, x2_, x3_, i64_w, i32_w]
        rfl
       refine pure_ (i := 6) (N := some 15) (v := ?_) (a' := ?_) #[true, true, true, true, true, true, true, false, false, true, false, false] rfl rfl (any_of HT_.out (by kernel_rfl)) (fun _ _ _ h => h) (Or.inl ⟨by rfl, ?_⟩) ?_ ?_
       rotate_left
       ·intro w'
        go_simp
        with_reducible rfl
       rotate_left
       ·simp only [Act.put, x1_, x2_, x3_, i64_w, i32_w]
        rfl
       refine pure_ (i := 7) (N := some 22) (v := ?_) (a' := ?_) #[true, true, true, true, true, true, true, true, false, true, false, false] rfl rfl (any_of HT_.out (by kernel_rfl)) (fun _ _ _ h => h) (Or.inl ⟨by rfl, ?_⟩) ?_ ?_
       rotate_left
       ·intro w'
        go_simp
        with_reducible rfl
       rotate_left
       ·simp only [Act.put, x1_, x2_, x3_, i64_w, i32_w]
        rfl
       refine pure_ (i := 8) (N := some 23) (v := ?_) (a' := ?_) #[true, true, true, true, true, true, true, true, true, true, false, false] rfl rfl (any_of HT_.out (by kernel_rfl)) (fun _ _ _ h => h) (Or.inl ⟨by rfl, ?_⟩) ?_ ?_
       rotate_left
       ·intro w'
        go_simp
        with_reducible rfl
       rotate_left
       ·simp only [Act.put, x1_, x2_, x3_, i64_w, i32_w]
        rfl
       exact norm_ (by simp only [putAll, Act.put, List.setIfInBounds_toArray, List.set_cons_zero, List.set_cons_succ]) (hCont (gb139) _ ⟨hHeld, (bz_ BK128.out), (bz_ BK129.out), (bz_ BK130.out), (bz_ BK139.out), GW139.out, GE139.out, NB128_139.out, NB139_128.out, NB129_139.out, NB139_129.out, NB130_139.out, NB139_130.out, (by repeat (first | (with_reducible first | exact HB.out | apply b1_ | apply b2_ | apply b3_ | apply c_ GE128 | apply c_ GE129 | apply c_ GE130 | apply c_ GE139) | exact HB.out))⟩)
     ·skip
      refine box_step ?hg (N := 7) ?hd (cs := #[.int .i64 0, .int .i64 0]) (t := 64) ?hr ?_; (case hd => rfl); (case hg => rfl); (case hr => first | (go_simp; done) | (go_simp; rfl))
      intro gb139 hg w45 hbox hb
      have n0_ := A_ (blk_below (bz_ BK128.out) hb)
      have n1_ := A_ (blk_below (bz_ BK129.out) hb)
      have n2_ := A_ (blk_below (bz_ BK130.out) hb)
      have n3_ := A_ (below_step (by repeat (first | (with_reducible first | exact HB.out | apply b1_ | apply b2_ | apply b3_ | apply c_ GE128 | apply c_ GE129 | apply c_ GE130) | exact HB.out)) hb)
      have n4_ := A_ (hbox)
      have n5_ := A_ (ge_ hg)
      have GE139 := n5_
      have NB128_139 := A_ (nl_ hg (bz_ BK128.out))
      have NB139_128 := A_ (ng_ hg (bz_ BK128.out))
      have NB129_139 := A_ (nl_ hg (bz_ BK129.out))
      have NB139_129 := A_ (ng_ hg (bz_ BK129.out))
      have NB130_139 := A_ (nl_ hg (bz_ BK130.out))
      have NB139_130 := A_ (ng_ hg (bz_ BK130.out))
      clear BK128 BK129
      clear BK130 HB
      have BK128 := n0_
      have BK129 := n1_
      have BK130 := n2_
      have HB := n3_
      have BK139 := n4_
      have GW139 := n5_
      clear n0_ n1_ n2_ n3_ n4_ n5_
      clear hb hbox hg
      refine hK.out _ _ ⟨bc_ BK128.out 0, bc_ BK128.out 1, bc_ BK128.out 2, bc_ BK129.out 0, bc_ BK129.out 1, bc_ BK129.out 2⟩ (fun hHeld => ?_)
      clear hK K
      refine norm_ (a' := ?_) ?_ ?_
      rotate_left
      ·show Act.put _ (some 7) _ = _
       simp only [Act.put, x1_, x2_, x3_, i64_w, i32_w]
       rfl
      refine one_ (i := 4) (N := some 20) #[true, true, true, true, true, false, false, false, false, true, false, false] rfl rfl (one_of HT_.out (by kernel_rfl)) (by decide) (fun K hK => ?_)
      refine goes_ Try.func64 (by kernel_rfl) rfl #[.agg #[.bool a2_0, .int .i64 a2_1, .int .i64 a2_2]] (by rfl) rfl rfl (by (try simp only [List.map_toArray, List.map_cons, List.map_nil]); first | done | rfl) ?_
      with_reducible refine (spec_l9Pair.calls a2_0 a2_1 a2_2 t134 t135 _ A7.out).mono ?_
      rintro e w46 ⟨rfl, hb⟩
      refine ⟨_, rfl, ?_⟩
      have n0_ := A_ (blk_below (bz_ BK128.out) hb)
      have n1_ := A_ (blk_below (bz_ BK129.out) hb)
      have n2_ := A_ (blk_below (bz_ BK130.out) hb)
      have n3_ := A_ (blk_below (bz_ BK139.out) hb)
      have n4_ := A_ (below_step (by repeat (first | (with_reducible first | exact HB.out | apply b1_ | apply b2_ | apply b3_ | apply c_ GE128 | apply c_ GE129 | apply c_ GE130 | apply c_ GE139) | exact HB.out)) hb)
      clear BK128 BK129
      clear BK130 BK139 HB
      have BK128 := n0_
      have BK129 := n1_
      have BK130 := n2_
      have BK139 := n3_
      have HB := n4_
      clear n0_ n1_ n2_ n3_ n4_
      (try clear hb)
      (try clear hb2)
      (try clear hk)
      (try clear hi)
      refine hK.out _ _ ⟨bc_ BK128.out 0, bc_ BK128.out 1, bc_ BK128.out 2, bc_ BK129.out 0, bc_ BK129.out 1, bc_ BK129.out 2⟩ (fun hHeld => ?_)
      clear hK K
      refine norm_ (a' := ?_) ?_ ?_
      rotate_left
      ·show Act.put _ (some 20) _ = _
       simp only [Act.put, x1_, x2_, x3_, i64_w, i32_w]
       rfl
      refine one_ (i := 5) (N := some 21) #[true, true, true, true, true, true, false, false, false, true, false, false] rfl rfl (one_of HT_.out (by kernel_rfl)) (by decide) (fun K hK => ?_)
      refine goes_ Try.func56 (by kernel_rfl) rfl #[.int .i64 a0, .agg #[.int .i64 t132, .int .i64 t133], .agg #[.int .i64 t134, .int .i64 t135]] (by rfl) rfl rfl (by (try simp only [List.map_toArray, List.map_cons, List.map_nil]); first | done | rfl) ?_
      with_reducible refine (spec_PairMeet.calls a0 t132 t133 t134 t135 t136 t137 false _ A8.out).mono ?_
      rintro e w47 ⟨rfl, hb⟩
      refine ⟨_, rfl, ?_⟩
      have n0_ := A_ (blk_below (bz_ BK128.out) hb)
      have n1_ := A_ (blk_below (bz_ BK129.out) hb)
      have n2_ := A_ (blk_below (bz_ BK130.out) hb)
      have n3_ := A_ (blk_below (bz_ BK139.out) hb)
      have n4_ := A_ (below_step (by repeat (first | (with_reducible first | exact HB.out | apply b1_ | apply b2_ | apply b3_ | apply c_ GE128 | apply c_ GE129 | apply c_ GE130 | apply c_ GE139) | exact HB.out)) hb)
      clear BK128 BK129
      clear BK130 BK139 HB
      have BK128 := n0_
      have BK129 := n1_
      have BK130 := n2_
      have BK139 := n3_
      have HB := n4_
      clear n0_ n1_ n2_ n3_ n4_
      (try clear hb)
      (try clear hb2)
      (try clear hk)
      (try clear hi)
      refine hK.out _ _ ⟨bc_ BK128.out 0, bc_ BK128.out 1, bc_ BK128.out 2, bc_ BK129.out 0, bc_ BK129.out 1, bc_ BK129.out 2⟩ (fun hHeld => ?_)
      clear hK K
      refine norm_ (a' := ?_) ?_ ?_
      rotate_left
      ·show Act.put _ (some 21) _ = _
       simp only [Act.put, x1_, x2_, x3_, i64_w, i32_w]
       rfl
      refine pure_ (i := 6) (N := some 15) (v := ?_) (a' := ?_) #[true, true, true, true, true, true, true, false, false, true, false, false] rfl rfl (any_of HT_.out (by kernel_rfl)) (fun _ _ _ h => h) (Or.inl ⟨by rfl, ?_⟩) ?_ ?_
      rotate_left
      ·intro w'
       go_simp
       with_reducible rfl
      rotate_left
      ·simp only [Act.put, x1_, x2_, x3_, i64_w, i32_w]
       rfl
      refine pure_ (i := 7) (N := some 22) (v := ?_) (a' := ?_) #[true, true, true, true, true, true, true, true, false, true, false, false] rfl rfl (any_of HT_.out (by kernel_rfl)) (fun _ _ _ h => h) (Or.inl ⟨by rfl, ?_⟩) ?_ ?_
      rotate_left
      ·intro w'
       go_simp
       with_reducible rfl
      rotate_left
      ·simp only [Act.put, x1_, x2_, x3_, i64_w, i32_w]
       rfl
      refine pure_ (i := 8) (N := some 23) (v := ?_) (a' := ?_) #[true, true, true, true, true, true, true, true, true, true, false, false] rfl rfl (any_of HT_.out (by kernel_rfl)) (fun _ _ _ h => h) (Or.inl ⟨by rfl, ?_⟩) ?_ ?_
      rotate_left
      ·intro w'
       go_simp
       with_reducible rfl
      rotate_left
      ·simp only [Act.put, x1_, x2_, x3_, i64_w, i32_w]
       rfl
      exact norm_ (by simp only [putAll, Act.put, List.setIfInBounds_toArray, List.set_cons_zero, List.set_cons_succ]) (hCont (gb139) _ ⟨hHeld, (bz_ BK128.out), (bz_ BK129.out), (bz_ BK130.out), (bz_ BK139.out), GW139.out, GE139.out, NB128_139.out, NB139_128.out, NB129_139.out, NB139_129.out, NB130_139.out, NB139_130.out, (by repeat (first | (with_reducible first | exact HB.out | apply b1_ | apply b2_ | apply b3_ | apply c_ GE128 | apply c_ GE129 | apply c_ GE130 | apply c_ GE139) | exact HB.out))⟩)
    ·skip
     refine box_step ?hg (N := 7) ?hd (cs := #[.int .i64 0, .int .i64 0]) (t := 64) ?hr ?_; (case hd => rfl); (case hg => rfl); (case hr => first | (go_simp; done) | (go_simp; rfl))
     intro gb139 hg w44 hbox hb
     have n0_ := A_ (blk_below (bz_ BK128.out) hb)
     have n1_ := A_ (blk_below (bz_ BK129.out) hb)
     have n2_ := A_ (blk_below (bz_ BK130.out) hb)
     have n3_ := A_ (below_step (by repeat (first | (with_reducible first | exact HB.out | apply b1_ | apply b2_ | apply b3_ | apply c_ GE128 | apply c_ GE129 | apply c_ GE130) | exact HB.out)) hb)
     have n4_ := A_ (hbox)
     have n5_ := A_ (ge_ hg)
     have GE139 := n5_
     have NB128_139 := A_ (nl_ hg (bz_ BK128.out))
     have NB139_128 := A_ (ng_ hg (bz_ BK128.out))
     have NB129_139 := A_ (nl_ hg (bz_ BK129.out))
     have NB139_129 := A_ (ng_ hg (bz_ BK129.out))
     have NB130_139 := A_ (nl_ hg (bz_ BK130.out))
     have NB139_130 := A_ (ng_ hg (bz_ BK130.out))
     clear BK128 BK129
     clear BK130 HB
     have BK128 := n0_
     have BK129 := n1_
     have BK130 := n2_
     have HB := n3_
     have BK139 := n4_
     have GW139 := n5_
     clear n0_ n1_ n2_ n3_ n4_ n5_
     clear hb hbox hg
     refine hK.out _ _ ⟨bc_ BK128.out 0, bc_ BK128.out 1, bc_ BK128.out 2, bc_ BK129.out 0, bc_ BK129.out 1, bc_ BK129.out 2⟩ (fun hHeld => ?_)
     clear hK K
     refine norm_ (a' := ?_) ?_ ?_
     rotate_left
     ·show Act.put _ (some 7) _ = _
      simp only [Act.put, x1_, x2_, x3_, i64_w, i32_w]
      rfl
     refine one_ (i := 2) (N := some 18) #[true, true, true, true, false, false, false, false, false, true, false, false] rfl rfl (one_of HT_.out (by kernel_rfl)) (by decide) (fun K hK => ?_)
     refine goes_ Try.func64 (by kernel_rfl) rfl #[.agg #[.bool a1_0, .int .i64 a1_1, .int .i64 a1_2]] (by rfl) rfl rfl (by (try simp only [List.map_toArray, List.map_cons, List.map_nil]); first | done | rfl) ?_
     with_reducible refine (spec_l9Pair.calls a1_0 a1_1 a1_2 t132 t133 _ A6.out).mono ?_
     rintro e w45 ⟨rfl, hb⟩
     refine ⟨_, rfl, ?_⟩
     have n0_ := A_ (blk_below (bz_ BK128.out) hb)
     have n1_ := A_ (blk_below (bz_ BK129.out) hb)
     have n2_ := A_ (blk_below (bz_ BK130.out) hb)
     have n3_ := A_ (blk_below (bz_ BK139.out) hb)
     have n4_ := A_ (below_step (by repeat (first | (with_reducible first | exact HB.out | apply b1_ | apply b2_ | apply b3_ | apply c_ GE128 | apply c_ GE129 | apply c_ GE130 | apply c_ GE139) | exact HB.out)) hb)
     clear BK128 BK129
     clear BK130 BK139 HB
     have BK128 := n0_
     have BK129 := n1_
     have BK130 := n2_
     have BK139 := n3_
     have HB := n4_
     clear n0_ n1_ n2_ n3_ n4_
     (try clear hb)
     (try clear hb2)
     (try clear hk)
     (try clear hi)
     refine hK.out _ _ ⟨bc_ BK128.out 0, bc_ BK128.out 1, bc_ BK128.out 2, bc_ BK129.out 0, bc_ BK129.out 1, bc_ BK129.out 2⟩ (fun hHeld => ?_)
     clear hK K
     refine norm_ (a' := ?_) ?_ ?_
     rotate_left
     ·show Act.put _ (some 18) _ = _
      simp only [Act.put, x1_, x2_, x3_, i64_w, i32_w]
      rfl
     refine one_ (i := 4) (N := some 20) #[true, true, true, true, true, false, false, false, false, true, false, false] rfl rfl (one_of HT_.out (by kernel_rfl)) (by decide) (fun K hK => ?_)
     refine goes_ Try.func64 (by kernel_rfl) rfl #[.agg #[.bool a2_0, .int .i64 a2_1, .int .i64 a2_2]] (by rfl) rfl rfl (by (try simp only [List.map_toArray, List.map_cons, List.map_nil]); first | done | rfl) ?_
     with_reducible refine (spec_l9Pair.calls a2_0 a2_1 a2_2 t134 t135 _ A7.out).mono ?_
     rintro e w46 ⟨rfl, hb⟩
     refine ⟨_, rfl, ?_⟩
     have n0_ := A_ (blk_below (bz_ BK128.out) hb)
     have n1_ := A_ (blk_below (bz_ BK129.out) hb)
     have n2_ := A_ (blk_below (bz_ BK130.out) hb)
     have n3_ := A_ (blk_below (bz_ BK139.out) hb)
     have n4_ := A_ (below_step (by repeat (first | (with_reducible first | exact HB.out | apply b1_ | apply b2_ | apply b3_ | apply c_ GE128 | apply c_ GE129 | apply c_ GE130 | apply c_ GE139) | exact HB.out)) hb)
     clear BK128 BK129
     clear BK130 BK139 HB
     have BK128 := n0_
     have BK129 := n1_
     have BK130 := n2_
     have BK139 := n3_
     have HB := n4_
     clear n0_ n1_ n2_ n3_ n4_
     (try clear hb)
     (try clear hb2)
     (try clear hk)
     (try clear hi)
     refine hK.out _ _ ⟨bc_ BK128.out 0, bc_ BK128.out 1, bc_ BK128.out 2, bc_ BK129.out 0, bc_ BK129.out 1, bc_ BK129.out 2⟩ (fun hHeld => ?_)
     clear hK K
     refine norm_ (a' := ?_) ?_ ?_
     rotate_left
     ·show Act.put _ (some 20) _ = _
      simp only [Act.put, x1_, x2_, x3_, i64_w, i32_w]
      rfl
     refine one_ (i := 5) (N := some 21) #[true, true, true, true, true, true, false, false, false, true, false, false] rfl rfl (one_of HT_.out (by kernel_rfl)) (by decide) (fun K hK => ?_)
     refine goes_ Try.func56 (by kernel_rfl) rfl #[.int .i64 a0, .agg #[.int .i64 t132, .int .i64 t133], .agg #[.int .i64 t134, .int .i64 t135]] (by rfl) rfl rfl (by (try simp only [List.map_toArray, List.map_cons, List.map_nil]); first | done | rfl) ?_
     with_reducible refine (spec_PairMeet.calls a0 t132 t133 t134 t135 t136 t137 false _ A8.out).mono ?_
     rintro e w47 ⟨rfl, hb⟩
     refine ⟨_, rfl, ?_⟩
     have n0_ := A_ (blk_below (bz_ BK128.out) hb)
     have n1_ := A_ (blk_below (bz_ BK129.out) hb)
     have n2_ := A_ (blk_below (bz_ BK130.out) hb)
     have n3_ := A_ (blk_below (bz_ BK139.out) hb)
     have n4_ := A_ (below_step (by repeat (first | (with_reducible first | exact HB.out | apply b1_ | apply b2_ | apply b3_ | apply c_ GE128 | apply c_ GE129 | apply c_ GE130 | apply c_ GE139) | exact HB.out)) hb)
     clear BK128 BK129
     clear BK130 BK139 HB
     have BK128 := n0_
     have BK129 := n1_
     have BK130 := n2_
     have BK139 := n3_
     have HB := n4_
     clear n0_ n1_ n2_ n3_ n4_
     (try clear hb)
     (try clear hb2)
     (try clear hk)
     (try clear hi)
     refine hK.out _ _ ⟨bc_ BK128.out 0, bc_ BK128.out 1, bc_ BK128.out 2, bc_ BK129.out 0, bc_ BK129.out 1, bc_ BK129.out 2⟩ (fun hHeld => ?_)
     clear hK K
     refine norm_ (a' := ?_) ?_ ?_
     rotate_left
     ·show Act.put _ (some 21) _ = _
      simp only [Act.put, x1_, x2_, x3_, i64_w, i32_w]
      rfl
     refine pure_ (i := 6) (N := some 15) (v := ?_) (a' := ?_) #[true, true, true, true, true, true, true, false, false, true, false, false] rfl rfl (any_of HT_.out (by kernel_rfl)) (fun _ _ _ h => h) (Or.inl ⟨by rfl, ?_⟩) ?_ ?_
     rotate_left
     ·intro w'
      go_simp
      with_reducible rfl
     rotate_left
     ·simp only [Act.put, x1_, x2_, x3_, i64_w, i32_w]
      rfl
     refine pure_ (i := 7) (N := some 22) (v := ?_) (a' := ?_) #[true, true, true, true, true, true, true, true, false, true, false, false] rfl rfl (any_of HT_.out (by kernel_rfl)) (fun _ _ _ h => h) (Or.inl ⟨by rfl, ?_⟩) ?_ ?_
     rotate_left
     ·intro w'
      go_simp
      with_reducible rfl
     rotate_left
     ·simp only [Act.put, x1_, x2_, x3_, i64_w, i32_w]
      rfl
     refine pure_ (i := 8) (N := some 23) (v := ?_) (a' := ?_) #[true, true, true, true, true, true, true, true, true, true, false, false] rfl rfl (any_of HT_.out (by kernel_rfl)) (fun _ _ _ h => h) (Or.inl ⟨by rfl, ?_⟩) ?_ ?_
     rotate_left
     ·intro w'
      go_simp
      with_reducible rfl
     rotate_left
     ·simp only [Act.put, x1_, x2_, x3_, i64_w, i32_w]
      rfl
     exact norm_ (by simp only [putAll, Act.put, List.setIfInBounds_toArray, List.set_cons_zero, List.set_cons_succ]) (hCont (gb139) _ ⟨hHeld, (bz_ BK128.out), (bz_ BK129.out), (bz_ BK130.out), (bz_ BK139.out), GW139.out, GE139.out, NB128_139.out, NB139_128.out, NB129_139.out, NB139_129.out, NB130_139.out, NB139_130.out, (by repeat (first | (with_reducible first | exact HB.out | apply b1_ | apply b2_ | apply b3_ | apply c_ GE128 | apply c_ GE129 | apply c_ GE130 | apply c_ GE139) | exact HB.out))⟩)
   rintro gb139 w48 ⟨hS_, h0_, h1_, h2_, h3_, h4_, h5_, h6_, h7_, h8_, h9_, h10_, h11_, h12_⟩
   have n0_ : Aside0 (w48.heap[gb128]? = some (.cells #[.bool a1_0, .int .i64 a1_1, .int .i64 a1_2] 24 (0, 0))) := ⟨h0_⟩
   have n1_ : Aside0 (w48.heap[gb129]? = some (.cells #[.bool a2_0, .int .i64 a2_1, .int .i64 a2_2] 24 (0, 0))) := ⟨h1_⟩
   have n2_ : Aside0 (w48.heap[gb130]? = some (.cells #[.bool false, .int .i64 0, .int .i64 0] 24 (0, 0))) := ⟨h2_⟩
   have n3_ : Aside0 (w48.heap[gb139]? = some (.cells #[.int .i64 0, .int .i64 0] 64 (0, 0))) := ⟨h3_⟩
   have GW139 : Aside0 (w.heap.size ≤ gb139) := ⟨h4_⟩
   have GE139 : Aside0 (w.heap.size ≤ gb139) := ⟨h5_⟩
   have NB128_139 := A_ h6_
   have NB139_128 := A_ h7_
   have NB129_139 := A_ h8_
   have NB139_129 := A_ h9_
   have NB130_139 := A_ h10_
   have NB139_130 := A_ h11_
   have n12_ : Aside0 (Below w.heap.size w w48) := ⟨h12_⟩
   clear BK128 BK129
   clear BK130 HB
   clear h0_ h1_ h2_ h3_ h4_ h5_ h6_ h7_ h8_ h9_ h10_ h11_ h12_
   have BK128 := n0_
   have BK129 := n1_
   have BK130 := n2_
   have BK139 := n3_
   have HB := n12_
   clear n0_ n1_ n2_ n3_ n12_
   have hHeld : w48.cell? ⟨gb128, 0, none⟩ = some (.bool a1_0) ∧ w48.cell? ⟨gb128, 1, none⟩ = some (.int .i64 a1_1) ∧ w48.cell? ⟨gb128, 2, none⟩ = some (.int .i64 a1_2) ∧ w48.cell? ⟨gb129, 0, none⟩ = some (.bool a2_0) ∧ w48.cell? ⟨gb129, 1, none⟩ = some (.int .i64 a2_1) ∧ w48.cell? ⟨gb129, 2, none⟩ = some (.int .i64 a2_2) := hS_
   refine norm_ (a' := ?_) ?_ ?_
   rotate_left
   ·simp only [putAll, Act.put, List.setIfInBounds_toArray, List.set_cons_zero, List.set_cons_succ]
    rfl
   refine one_ (i := 10) (N := none) #[true, true, true, true, true, true, true, true, true, true, true, false] rfl rfl (one_of HT_.out (by kernel_rfl)) (by decide) (fun K hK => ?_)
   have hs49 : w48.cell? ⟨gb139, 0, none⟩ = some (.int .i64 0) := bc_ BK139.out 0
   have hfs49 := blk_frozen BK139.out 0
   have hns49_0 := NB128_139.out
   have hns49_1 := NB129_139.out
   have hns49_2 := NB130_139.out
   have hms49_0 := NB139_128.out
   have hms49_1 := NB139_129.out
   have hms49_2 := NB139_130.out
   have hs50 : w48.cell? ⟨gb139, 1, none⟩ = some (.int .i64 0) := bc_ BK139.out 1
   have hfs50 := blk_frozen BK139.out 1
   have hns50_0 := NB128_139.out
   have hns50_1 := NB129_139.out
   have hns50_2 := NB130_139.out
   have hms50_0 := NB139_128.out
   have hms50_1 := NB139_129.out
   have hms50_2 := NB139_130.out
   refine skip_ (w1 := ?_) (by rfl) rfl ?_ ?_
   rotate_left
   ·go_simp
    rfl
   refine hK.out _ _ ⟨((cell_far (p := ⟨gb139, _, none⟩) NB128_139.out _).trans (((cell_far (p := ⟨gb139, _, none⟩) NB128_139.out _).trans (hHeld.1)))), ((cell_far (p := ⟨gb139, _, none⟩) NB128_139.out _).trans (((cell_far (p := ⟨gb139, _, none⟩) NB128_139.out _).trans (hHeld.2.1)))), ((cell_far (p := ⟨gb139, _, none⟩) NB128_139.out _).trans (((cell_far (p := ⟨gb139, _, none⟩) NB128_139.out _).trans (hHeld.2.2.1)))), ((cell_far (p := ⟨gb139, _, none⟩) NB129_139.out _).trans (((cell_far (p := ⟨gb139, _, none⟩) NB129_139.out _).trans (hHeld.2.2.2.1)))), ((cell_far (p := ⟨gb139, _, none⟩) NB129_139.out _).trans (((cell_far (p := ⟨gb139, _, none⟩) NB129_139.out _).trans (hHeld.2.2.2.2.1)))), ((cell_far (p := ⟨gb139, _, none⟩) NB129_139.out _).trans (((cell_far (p := ⟨gb139, _, none⟩) NB129_139.out _).trans (hHeld.2.2.2.2.2))))⟩ (fun hHeld => ?_)
   clear hK K
   refine pure_ (i := 11) (N := some 8) (v := ?_) (a' := ?_) #[true, true, true, true, true, true, true, true, true, true, true, true] rfl rfl (any_of HT_.out (by kernel_rfl)) (fun _ _ _ h => h) (Or.inl ⟨by rfl, ?_⟩) ?_ ?_
   rotate_left
   ·intro w'
    go_simp
    with_reducible rfl
   rotate_left
   ·simp only [Act.put, x1_, x2_, x3_, i64_w, i32_w]
    rfl
   refine done_ (done_of HT_.out (by kernel_rfl)) ?_
   have hnb51 := NB130_139.out
   have hnc51 := NB139_130.out
   have hcz52_0 : w48.cell? ⟨gb130, 0, none⟩ = some (.bool false) := bc_ BK130.out 0
   have hcz52_1 : w48.cell? ⟨gb130, 1, none⟩ = some (.int .i64 0) := bc_ BK130.out 1
   have hcz52_2 : w48.cell? ⟨gb130, 2, none⟩ = some (.int .i64 0) := bc_ BK130.out 2
   have hfz52_0 := blk_frozen BK130.out 0
   have hfz52_1 := blk_frozen BK130.out 1
   have hfz52_2 := blk_frozen BK130.out 2
   try go_wp2
   refine bodyPost_ret (results_cell_row rfl _ _ gb130 24 #[.bool false, .int .i64 0, .int .i64 0] (0, 0) _ rfl (by (with_reducible repeat (first | apply bn_ | apply bd_ | apply ba_)); refine blk_put (cs := #[.bool false, .int .i64 0, .int .i64 0]) ?_ 2 _ (by first | rfl | (simp [*]; done)); (with_reducible repeat (first | apply bn_ | apply bd_ | apply ba_)); refine blk_put (cs := #[.bool false, .int .i64 0, .int .i64 0]) ?_ 1 _ (by first | rfl | (simp [*]; done)); (with_reducible repeat (first | apply bn_ | apply bd_ | apply ba_)); refine blk_put (cs := #[.bool false, .int .i64 0, .int .i64 0]) ?_ 0 _ (by first | rfl | (simp [*]; done)); (with_reducible repeat (first | apply bn_ | apply bd_ | apply ba_)); refine blk_far ?_ NB130_139.out _; (with_reducible repeat (first | apply bn_ | apply bd_ | apply ba_)); refine blk_far ?_ NB130_139.out _; (with_reducible repeat (first | apply bn_ | apply bd_ | apply ba_)); exact BK130.out) Try.underlying24 rfl (by kernel_rfl)) rfl ?_
   exact ⟨by first | rfl | (simp [errW_none, errW_some] <;> rfl) | (simp [*, errW_none, errW_some] <;> rfl), by repeat (first | (with_reducible first | exact HB.out | apply b1_ | apply b2_ | apply b3_ | apply c_ GE128 | apply c_ GE129 | apply c_ GE130 | apply c_ GE139) | exact HB.out)⟩
 ·replace c5 := Bool.eq_false_iff.mpr c5
  subst c5
  have H1 : (some (false, 0, 0)) = some (r1, r2, r3) := by rw [if_neg (show ¬ (false = true) by decide)] at H; exact H
  clear H
  have H := H1
  clear H1
  simp only [Option.some.injEq, Prod.mk.injEq] at H
  obtain ⟨rfl, rfl, rfl⟩ := H
  go_enter Try.func34, Try.ntmps34
  go_wp2_with (first | ((with_reducible refine gate_dst (N := 4) rfl ?_); refine box_event ?hg (N := 4) ?hd (cs := #[.bool a1_0, .int .i64 a1_1, .int .i64 a1_2]) (t := 24) ?hr ?_; (case hd => rfl); (case hg => rfl); (case hr => first | (go_simp; done) | (go_simp; rfl)); intro gb128 hg w53 hbox hb; have n0_ := A_ (below_step (by repeat (first | (with_reducible first | exact HB.out | apply b1_ | apply b2_ | apply b3_) | exact HB.out)) hb); have n1_ := A_ (hbox); have n2_ := A_ (ge_ hg); have n3_ := n2_; clear HB; have HB := n0_; have BK128 := n1_; have GW128 := n2_; have GE128 := n3_; clear n0_ n1_ n2_ n3_; clear hb hbox hg) | ((with_reducible refine gate_dst (N := 5) rfl ?_); refine box_event ?hg (N := 5) ?hd (cs := #[.bool a2_0, .int .i64 a2_1, .int .i64 a2_2]) (t := 24) ?hr ?_; (case hd => rfl); (case hg => rfl); (case hr => first | (go_simp; done) | (go_simp; rfl)); intro gb129 hg w54 hbox hb; have n0_ := A_ (blk_below (bz_ BK128.out) hb); have n1_ := A_ (below_step (by repeat (first | (with_reducible first | exact HB.out | apply b1_ | apply b2_ | apply b3_ | apply c_ GE128) | exact HB.out)) hb); have n2_ := A_ (hbox); have n3_ := A_ (ge_ hg); have n4_ := n3_; have n5_ := A_ (nl_ hg (bz_ BK128.out)); have n6_ := A_ (ng_ hg (bz_ BK128.out)); clear BK128 HB; have BK128 := n0_; have HB := n1_; have BK129 := n2_; have GW129 := n3_; have GE129 := n4_; have NB128_129 := n5_; have NB129_128 := n6_; clear n0_ n1_ n2_ n3_ n4_ n5_ n6_; clear hb hbox hg) | ((with_reducible refine gate_dst (N := 6) rfl ?_); refine box_event ?hg (N := 6) ?hd (cs := #[.bool false, .int .i64 0, .int .i64 0]) (t := 24) ?hr ?_; (case hd => rfl); (case hg => rfl); (case hr => first | (go_simp; done) | (go_simp; rfl)); intro gb130 hg w55 hbox hb; have n0_ := A_ (blk_below (bz_ BK128.out) hb); have n1_ := A_ (blk_below (bz_ BK129.out) hb); have n2_ := A_ (below_step (by repeat (first | (with_reducible first | exact HB.out | apply b1_ | apply b2_ | apply b3_ | apply c_ GE128 | apply c_ GE129) | exact HB.out)) hb); have n3_ := A_ (hbox); have n4_ := A_ (ge_ hg); have n5_ := n4_; have n6_ := A_ (nl_ hg (bz_ BK128.out)); have n7_ := A_ (ng_ hg (bz_ BK128.out)); have n8_ := A_ (nl_ hg (bz_ BK129.out)); have n9_ := A_ (ng_ hg (bz_ BK129.out)); clear BK128 BK129 HB; have BK128 := n0_; have BK129 := n1_; have HB := n2_; have BK130 := n3_; have GW130 := n4_; have GE130 := n5_; have NB128_130 := n6_; have NB130_128 := n7_; have NB129_130 := n8_; have NB130_129 := n9_; clear n0_ n1_ n2_ n3_ n4_ n5_ n6_ n7_ n8_ n9_; clear hb hbox hg; have hnb56 := NB128_129.out; have hnc56 := NB129_128.out; have hnb57 := NB128_130.out; have hnc57 := NB130_128.out; have hcz58_0 : w55.cell? ⟨gb128, 0, none⟩ = some (.bool a1_0) := bc_ BK128.out 0; have hcz58_1 : w55.cell? ⟨gb128, 1, none⟩ = some (.int .i64 a1_1) := bc_ BK128.out 1; have hcz58_2 : w55.cell? ⟨gb128, 2, none⟩ = some (.int .i64 a1_2) := bc_ BK128.out 2; have hfz58_0 := blk_frozen BK128.out 0; have hfz58_1 := blk_frozen BK128.out 1; have hfz58_2 := blk_frozen BK128.out 2; have hnb59 := NB129_130.out; have hnc59 := NB130_129.out; have hcz60_0 : w55.cell? ⟨gb129, 0, none⟩ = some (.bool a2_0) := bc_ BK129.out 0; have hcz60_1 : w55.cell? ⟨gb129, 1, none⟩ = some (.int .i64 a2_1) := bc_ BK129.out 1; have hcz60_2 : w55.cell? ⟨gb129, 2, none⟩ = some (.int .i64 a2_2) := bc_ BK129.out 2; have hfz60_0 := blk_frozen BK129.out 0; have hfz60_1 := blk_frozen BK129.out 1; have hfz60_2 := blk_frozen BK129.out 2) | ((with_reducible refine gate_callee (f := 32) rfl ?_); refine goesL_ (some 12) rfl rfl Try.func32 (by kernel_rfl) rfl #[.int .i64 a0, .agg #[.bool a1_0, .int .i64 a1_1, .int .i64 a1_2], .agg #[.bool a2_0, .int .i64 a2_1, .int .i64 a2_2]] rfl (by (try simp only [List.map_toArray, List.map_cons, List.map_nil]); first | done | rfl) ?_; (with_reducible refine (spec_l9Both.calls a0 a1_0 a1_1 a1_2 a2_0 a2_1 a2_2 false _ A4.out).mono ?_); rintro e w61 ⟨rfl, hb⟩; refine ⟨_, rfl, ?_⟩; have n0_ := A_ (blk_below (bz_ BK128.out) hb); have n1_ := A_ (blk_below (bz_ BK129.out) hb); have n2_ := A_ (blk_below (bz_ BK130.out) hb); have n3_ := A_ (below_step (by repeat (first | (with_reducible first | exact HB.out | apply b1_ | apply b2_ | apply b3_ | apply c_ GE128 | apply c_ GE129 | apply c_ GE130) | exact HB.out)) hb); clear BK128 BK129 BK130 HB; have BK128 := n0_; have BK129 := n1_; have BK130 := n2_; have HB := n3_; clear n0_ n1_ n2_ n3_; (try clear hb); (try clear hb2); (try clear hk); (try clear hi); have hcz62_0 : w61.cell? ⟨gb130, 0, none⟩ = some (.bool false) := bc_ BK130.out 0; have hcz62_1 : w61.cell? ⟨gb130, 1, none⟩ = some (.int .i64 0) := bc_ BK130.out 1; have hcz62_2 : w61.cell? ⟨gb130, 2, none⟩ = some (.int .i64 0) := bc_ BK130.out 2; have hfz62_0 := blk_frozen BK130.out 0; have hfz62_1 := blk_frozen BK130.out 1; have hfz62_2 := blk_frozen BK130.out 2))
  refine bodyPost_ret (results_cell_row rfl _ _ gb130 24 #[.bool false, .int .i64 0, .int .i64 0] (0, 0) _ rfl (by (with_reducible repeat (first | apply bn_ | apply bd_ | apply ba_)); refine blk_put (cs := #[.bool false, .int .i64 0, .int .i64 0]) ?_ 2 _ (by first | rfl | (simp [*]; done)); (with_reducible repeat (first | apply bn_ | apply bd_ | apply ba_)); refine blk_put (cs := #[.bool false, .int .i64 0, .int .i64 0]) ?_ 1 _ (by first | rfl | (simp [*]; done)); (with_reducible repeat (first | apply bn_ | apply bd_ | apply ba_)); refine blk_put (cs := #[.bool false, .int .i64 0, .int .i64 0]) ?_ 0 _ (by first | rfl | (simp [*]; done)); (with_reducible repeat (first | apply bn_ | apply bd_ | apply ba_)); exact BK130.out) Try.underlying24 rfl (by kernel_rfl)) rfl ?_
  exact ⟨by first | rfl | (simp [errW_none, errW_some] <;> rfl) | (simp [*, errW_none, errW_some] <;> rfl), by repeat (first | (with_reducible first | exact HB.out | apply b1_ | apply b2_ | apply b3_ | apply c_ GE128 | apply c_ GE129 | apply c_ GE130) | exact HB.out)⟩

end Go.Proofs.Ytlnihglcneaonaa.QFnExactRelMeet
