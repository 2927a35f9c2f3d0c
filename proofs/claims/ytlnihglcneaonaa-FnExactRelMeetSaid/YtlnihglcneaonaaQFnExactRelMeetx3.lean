/- The machine side of one law: each function and the law itself walked once, written by a program of this session (wip/xprint.py) that runs the printer of the kit.
   Conditions: none. -/
import Derived.Test.YtlnihglcneaonaaQFnExactRelMeetx0
import Derived.Test.YtlnihglcneaonaaQFnExactRelMeetx2
namespace Go.Proofs.Ytlnihglcneaonaa.QFnExactRelMeet
open Go.RowKit Go.Proofs.YtlnihglcneaonaaW.PrintWords Go.Proofs.YtlnihglcneaonaaW.PrintLast Go.Proofs.YtlnihglcneaonaaW.PrintMore
attribute [local go_sem] Go.Instr.field Go.asAgg Go.Proofs.Ytlnihglcneaonaa.MS.isSome_setCell
attribute [local go_sem] max2_int min2_int max_two min_two max_three min_three max_four min_four   -- for this text's walks alone
set_option linter.unusedVariables false
set_option linter.unusedSimpArgs false

/-! ### spec_PairMeet: function 56 -/
def spec_PairMeet.f (a0 : Int) (a1_0 : Int) (a1_1 : Int) (a2_0 : Int) (a2_1 : Int) : Option (Int × Int × Bool) := (spec_l3Max.f a1_0 a2_0).bind fun t123 => ((spec_l3Min.f a1_1 a2_1).bind fun t124 => ((spec_PairOk.f a0 a1_0 a1_1).bind fun t126 => (if t126 = true then ((spec_PairOk.f a0 a2_0 a2_1).bind fun t127 => (if t127 = true then (if t123 > t124 then (some (0, 0, false)) else (some (t123, t124, true))) else (some (0, 0, false)))) else (some (0, 0, false)))))
def spec_PairMeet.T1 : Bool × List (List Nat × List Nat) := (true, [([], []), ([0], [0]), ([], []), ([2], [2]), ([1, 3], [1, 3]), ([], []), ([5], [5]), ([], []), ([7], [7]), ([6, 8, 4], [6, 8]), ([4, 9], [4, 9]), ([], []), ([11, 10, 9, 0, 1, 2, 3, 4, 5, 6, 7, 8, 9, 10, 11], [10, 11])])
def spec_PairMeet.B1 : List Nat := [0, 1, 0, 4, 15, 0, 32, 0, 128, 511, 1023, 0, 4095]
theorem spec_PairMeet.tab1 : rtab .any (opsOf Try.f56 1) = spec_PairMeet.T1 := by kernel_rfl
theorem spec_PairMeet.bits1 : waitsOk spec_PairMeet.T1.2 spec_PairMeet.B1 = true := by kernel_rfl
set_option maxHeartbeats 8000000 in
set_option maxRecDepth 100000 in
theorem spec_PairMeet.calls (a0 : Int) (a1_0 : Int) (a1_1 : Int) (a2_0 : Int) (a2_1 : Int) (r1 : Int) (r2 : Int) (r3 : Bool) (w : World) (h : spec_PairMeet.f a0 a1_0 a1_1 a2_0 a2_1 = some (r1, r2, r3)) :
  Calls Try.prog 56 #[.int .i64 a0, .agg #[.int .i64 a1_0, .int .i64 a1_1], .agg #[.int .i64 a2_0, .int .i64 a2_1]] w fun e w' => e = .returned (.tuple #[.agg #[.int .i64 r1, .int .i64 r2], .bool r3]) ∧ Below w.heap.size w w' := by
 have hu64 := Try.underlying64
 have HB := A_ (Below.refl w.heap.size w)
 have H : ((spec_l3Max.f a1_0 a2_0).bind fun t123 => ((spec_l3Min.f a1_1 a2_1).bind fun t124 => ((spec_PairOk.f a0 a1_0 a1_1).bind fun t126 => (if t126 = true then ((spec_PairOk.f a0 a2_0 a2_1).bind fun t127 => (if t127 = true then (if t123 > t124 then (some (0, 0, false)) else (some (t123, t124, true))) else (some (0, 0, false)))) else (some (0, 0, false)))))) = some (r1, r2, r3) := h
 clear h
 replace H := Option.bind_eq_some_iff.mp H
 obtain ⟨t123, A40, H⟩ := H
 replace H : ((spec_l3Min.f a1_1 a2_1).bind fun t124 => ((spec_PairOk.f a0 a1_0 a1_1).bind fun t126 => (if t126 = true then ((spec_PairOk.f a0 a2_0 a2_1).bind fun t127 => (if t127 = true then (if t123 > t124 then (some (0, 0, false)) else (some (t123, t124, true))) else (some (0, 0, false)))) else (some (0, 0, false))))) = some (r1, r2, r3) := H
 have A4 := A_ A40
 clear A40
 replace H := Option.bind_eq_some_iff.mp H
 obtain ⟨t124, A50, H⟩ := H
 replace H : ((spec_PairOk.f a0 a1_0 a1_1).bind fun t126 => (if t126 = true then ((spec_PairOk.f a0 a2_0 a2_1).bind fun t127 => (if t127 = true then (if t123 > t124 then (some (0, 0, false)) else (some (t123, t124, true))) else (some (0, 0, false)))) else (some (0, 0, false)))) = some (r1, r2, r3) := H
 have A5 := A_ A50
 clear A50
 replace H := Option.bind_eq_some_iff.mp H
 obtain ⟨t126, A60, H⟩ := H
 replace H : (if t126 = true then ((spec_PairOk.f a0 a2_0 a2_1).bind fun t127 => (if t127 = true then (if t123 > t124 then (some (0, 0, false)) else (some (t123, t124, true))) else (some (0, 0, false)))) else (some (0, 0, false))) = some (r1, r2, r3) := H
 have A6 := A_ A60
 clear A60
 by_cases c7 : t126 = true
 ·subst c7
  have H1 : ((spec_PairOk.f a0 a2_0 a2_1).bind fun t127 => (if t127 = true then (if t123 > t124 then (some (0, 0, false)) else (some (t123, t124, true))) else (some (0, 0, false)))) = some (r1, r2, r3) := by rw [if_pos rfl] at H; exact H
  clear H
  have H := H1
  clear H1
  replace H := Option.bind_eq_some_iff.mp H
  obtain ⟨t127, A80, H⟩ := H
  replace H : (if t127 = true then (if t123 > t124 then (some (0, 0, false)) else (some (t123, t124, true))) else (some (0, 0, false))) = some (r1, r2, r3) := H
  have A8 := A_ A80
  clear A80
  by_cases c9 : t127 = true
  ·subst c9
   have H1 : (if t123 > t124 then (some (0, 0, false)) else (some (t123, t124, true))) = some (r1, r2, r3) := by rw [if_pos rfl] at H; exact H
   clear H
   have H := H1
   clear H1
   by_cases c10 : t123 > t124
   ·rw [if_pos c10] at H
    have c10b0 : decide (t124 < t123) = true := decide_eq_true c10
    clear c10
    simp only [Option.some.injEq, Prod.mk.injEq] at H
    obtain ⟨rfl, rfl, rfl⟩ := H
    go_enter Try.func56, Try.ntmps56
    try go_wp2_with (first | ((with_reducible refine gate_dst (N := 4) rfl ?_); refine box_event ?hg (N := 4) ?hd (cs := #[.int .i64 a1_0, .int .i64 a1_1]) (t := 64) ?hr ?_; (case hd => rfl); (case hg => rfl); (case hr => first | (go_simp; done) | (go_simp; rfl)); intro gb120 hg w11 hbox hb; have n0_ := A_ (below_step (by repeat (first | (with_reducible first | exact HB.out | apply b1_ | apply b2_ | apply b3_) | exact HB.out)) hb); have n1_ := A_ (hbox); have n2_ := A_ (ge_ hg); have n3_ := n2_; clear HB; have HB := n0_; have BK120 := n1_; have GW120 := n2_; have GE120 := n3_; clear n0_ n1_ n2_ n3_; clear hb hbox hg) | ((with_reducible refine gate_dst (N := 5) rfl ?_); refine box_event ?hg (N := 5) ?hd (cs := #[.int .i64 a2_0, .int .i64 a2_1]) (t := 64) ?hr ?_; (case hd => rfl); (case hg => rfl); (case hr => first | (go_simp; done) | (go_simp; rfl)); intro gb121 hg w12 hbox hb; have n0_ := A_ (blk_below (bz_ BK120.out) hb); have n1_ := A_ (below_step (by repeat (first | (with_reducible first | exact HB.out | apply b1_ | apply b2_ | apply b3_ | apply c_ GE120) | exact HB.out)) hb); have n2_ := A_ (hbox); have n3_ := A_ (ge_ hg); have n4_ := n3_; have n5_ := A_ (nl_ hg (bz_ BK120.out)); have n6_ := A_ (ng_ hg (bz_ BK120.out)); clear BK120 HB; have BK120 := n0_; have HB := n1_; have BK121 := n2_; have GW121 := n3_; have GE121 := n4_; have NB120_121 := n5_; have NB121_120 := n6_; clear n0_ n1_ n2_ n3_ n4_ n5_ n6_; clear hb hbox hg) | ((with_reducible refine gate_dst (N := 6) rfl ?_); refine box_event ?hg (N := 6) ?hd (cs := #[.int .i64 0, .int .i64 0]) (t := 64) ?hr ?_; (case hd => rfl); (case hg => rfl); (case hr => first | (go_simp; done) | (go_simp; rfl)); intro gb122 hg w13 hbox hb; have n0_ := A_ (blk_below (bz_ BK120.out) hb); have n1_ := A_ (blk_below (bz_ BK121.out) hb); have n2_ := A_ (below_step (by repeat (first | (with_reducible first | exact HB.out | apply b1_ | apply b2_ | apply b3_ | apply c_ GE120 | apply c_ GE121) | exact HB.out)) hb); have n3_ := A_ (hbox); have n4_ := A_ (ge_ hg); have n5_ := n4_; have n6_ := A_ (nl_ hg (bz_ BK120.out)); have n7_ := A_ (ng_ hg (bz_ BK120.out)); have n8_ := A_ (nl_ hg (bz_ BK121.out)); have n9_ := A_ (ng_ hg (bz_ BK121.out)); clear BK120 BK121 HB; have BK120 := n0_; have BK121 := n1_; have HB := n2_; have BK122 := n3_; have GW122 := n4_; have GE122 := n5_; have NB120_122 := n6_; have NB122_120 := n7_; have NB121_122 := n8_; have NB122_121 := n9_; clear n0_ n1_ n2_ n3_ n4_ n5_ n6_ n7_ n8_ n9_; clear hb hbox hg))
    have n0_ := A_ (blk_drew BK120.out)
    have n1_ := A_ (blk_drew BK121.out)
    have n2_ := A_ (blk_drew BK122.out)
    have n3_ := A_ (below_drew1 HB.out)
    clear BK120 BK121
    clear BK122 HB
    have BK120 := n0_
    have BK121 := n1_
    have BK122 := n2_
    have HB := n3_
    clear n0_ n1_ n2_ n3_
    refine start_ (n := 13) (S := fun w' => w'.cell? ⟨gb120, 0, none⟩ = some (.int .i64 a1_0) ∧ w'.cell? ⟨gb120, 1, none⟩ = some (.int .i64 a1_1) ∧ w'.cell? ⟨gb121, 0, none⟩ = some (.int .i64 a2_0) ∧ w'.cell? ⟨gb121, 1, none⟩ = some (.int .i64 a2_1)) (ds := []) #[false, false, false, false, false, false, false, false, false, false, false, false, false] (by kernel_rfl) rfl rfl ⟨bc_ BK120.out 0, bc_ BK120.out 1, bc_ BK121.out 0, bc_ BK121.out 1⟩ (fun hHeld => ?_); refine with_tabW spec_PairMeet.tab1 spec_PairMeet.bits1 (fun HT_ HW_ => ?_)
    generalize w13.drew = w14 at BK120 BK121 BK122 HB hHeld ⊢
    refine pure_ (i := 0) (N := some 9) (v := ?_) (a' := ?_) #[true, false, false, false, false, false, false, false, false, false, false, false, false] rfl rfl (any_of HT_.out (by kernel_rfl)) (fun _ _ _ h => h) (Or.inl ⟨by rfl, ?_⟩) ?_ ?_
    rotate_left
    ·intro w'
     go_simp
     with_reducible rfl
    rotate_left
    ·simp only [Act.put, x1_, x2_, x3_, i64_w, i32_w]
     rfl
    refine pure_ (i := 2) (N := some 11) (v := ?_) (a' := ?_) #[true, false, true, false, false, false, false, false, false, false, false, false, false] rfl rfl (any_of HT_.out (by kernel_rfl)) (fun _ _ _ h => h) (Or.inl ⟨by rfl, ?_⟩) ?_ ?_
    rotate_left
    ·intro w'
     go_simp
     with_reducible rfl
    rotate_left
    ·simp only [Act.put, x1_, x2_, x3_, i64_w, i32_w]
     rfl
    refine pure_ (i := 5) (N := some 14) (v := ?_) (a' := ?_) #[true, false, true, false, false, true, false, false, false, false, false, false, false] rfl rfl (any_of HT_.out (by kernel_rfl)) (fun _ _ _ h => h) (Or.inl ⟨by rfl, ?_⟩) ?_ ?_
    rotate_left
    ·intro w'
     go_simp
     with_reducible rfl
    rotate_left
    ·simp only [Act.put, x1_, x2_, x3_, i64_w, i32_w]
     rfl
    refine pure_ (i := 7) (N := some 16) (v := ?_) (a' := ?_) #[true, false, true, false, false, true, false, true, false, false, false, false, false] rfl rfl (any_of HT_.out (by kernel_rfl)) (fun _ _ _ h => h) (Or.inl ⟨by rfl, ?_⟩) ?_ ?_
    rotate_left
    ·intro w'
     go_simp
     with_reducible rfl
    rotate_left
    ·simp only [Act.put, x1_, x2_, x3_, i64_w, i32_w]
     rfl
    refine take_ (i := 1) (N := some 10) (v := ?_) (a' := ?_) #[true, true, true, false, false, true, false, true, false, false, false, false, false] rfl rfl (take_ofW HT_.out HW_.out (by kernel_rfl)) (fun _ _ _ h => h) (Or.inl ⟨by rfl, ?_⟩) hHeld ?_ ?_
    rotate_left
    ·rintro w' ⟨s0, s1, s2, s3⟩
     go_simp
     with_reducible rfl
    rotate_left
    ·simp only [Act.put, x1_, x2_, x3_, i64_w, i32_w]
     rfl
    refine take_ (i := 3) (N := some 12) (v := ?_) (a' := ?_) #[true, true, true, true, false, true, false, true, false, false, false, false, false] rfl rfl (take_ofW HT_.out HW_.out (by kernel_rfl)) (fun _ _ _ h => h) (Or.inl ⟨by rfl, ?_⟩) hHeld ?_ ?_
    rotate_left
    ·rintro w' ⟨s0, s1, s2, s3⟩
     go_simp
     with_reducible rfl
    rotate_left
    ·simp only [Act.put, x1_, x2_, x3_, i64_w, i32_w]
     rfl
    refine take_ (i := 6) (N := some 15) (v := ?_) (a' := ?_) #[true, true, true, true, false, true, true, true, false, false, false, false, false] rfl rfl (take_ofW HT_.out HW_.out (by kernel_rfl)) (fun _ _ _ h => h) (Or.inl ⟨by rfl, ?_⟩) hHeld ?_ ?_
    rotate_left
    ·rintro w' ⟨s0, s1, s2, s3⟩
     go_simp
     with_reducible rfl
    rotate_left
    ·simp only [Act.put, x1_, x2_, x3_, i64_w, i32_w]
     rfl
    refine take_ (i := 8) (N := some 17) (v := ?_) (a' := ?_) #[true, true, true, true, false, true, true, true, true, false, false, false, false] rfl rfl (take_ofW HT_.out HW_.out (by kernel_rfl)) (fun _ _ _ h => h) (Or.inl ⟨by rfl, ?_⟩) hHeld ?_ ?_
    rotate_left
    ·rintro w' ⟨s0, s1, s2, s3⟩
     go_simp
     with_reducible rfl
    rotate_left
    ·simp only [Act.put, x1_, x2_, x3_, i64_w, i32_w]
     rfl
    refine join_ (σ := Nat) 1 #[true, true, true, true, true, true, true, true, true, true, true, true, false] (fun s_ => [(13, .int .i64 t123), (18, .int .i64 t124), (8, .pointer (some ⟨s_, 0, none⟩)), (19, .agg #[.int .i64 t123, .int .i64 t124])]) (fun s_ w' => (w'.cell? ⟨gb120, 0, none⟩ = some (.int .i64 a1_0) ∧ w'.cell? ⟨gb120, 1, none⟩ = some (.int .i64 a1_1) ∧ w'.cell? ⟨gb121, 0, none⟩ = some (.int .i64 a2_0) ∧ w'.cell? ⟨gb121, 1, none⟩ = some (.int .i64 a2_1)) ∧ (w'.heap[gb120]? = some (.cells #[.int .i64 a1_0, .int .i64 a1_1] 64 (0, 0))) ∧ (w'.heap[gb121]? = some (.cells #[.int .i64 a2_0, .int .i64 a2_1] 64 (0, 0))) ∧ (w'.heap[gb122]? = some (.cells #[.int .i64 0, .int .i64 0] 64 (0, 0))) ∧ (w'.heap[s_]? = some (.cells #[.int .i64 0, .int .i64 0] 64 (0, 0))) ∧ (w.heap.size ≤ s_) ∧ (w.heap.size ≤ s_) ∧ (gb120 ≠ s_) ∧ (s_ ≠ gb120) ∧ (gb121 ≠ s_) ∧ (s_ ≠ gb121) ∧ (gb122 ≠ s_) ∧ (s_ ≠ gb122) ∧ (Below w.heap.size w w')) ?_ ?_
    rotate_left
    ·intro hCont
     refine two_ (i := 4) (j := 11) (Ni := some 13) (Nj := some 8) #[true, true, true, true, true, true, true, true, true, false, false, false, false] #[true, true, true, true, false, true, true, true, true, false, false, true, false] rfl rfl rfl rfl (two_of HT_.out (by kernel_rfl)) (by decide) (by decide) (fun K hK => ?_) (fun K hK => ?_)
     ·skip
      refine goes_ Try.func71 (by kernel_rfl) rfl #[.int .i64 a1_0, .int .i64 a2_0] (by rfl) rfl rfl (by (try simp only [List.map_toArray, List.map_cons, List.map_nil]); first | done | rfl) ?_
      with_reducible refine (spec_l3Max.calls a1_0 a2_0 t123 _ A4.out).mono ?_
      rintro e w' ⟨rfl, ⟨nd, rfl⟩⟩
      refine ⟨_, rfl, ?_⟩
      refine hK.out _ _ ⟨bc_ BK120.out 0, bc_ BK120.out 1, bc_ BK121.out 0, bc_ BK121.out 1⟩ (fun hHeld => ?_)
      clear hK K
      refine norm_ (a' := ?_) ?_ ?_
      rotate_left
      ·show Act.put _ (some 13) _ = _
       simp only [Act.put, x1_, x2_, x3_, i64_w, i32_w]
       rfl
      refine two_ (i := 9) (j := 11) (Ni := some 18) (Nj := some 8) #[true, true, true, true, true, true, true, true, true, true, false, false, false] #[true, true, true, true, true, true, true, true, true, false, false, true, false] rfl rfl rfl rfl (two_of HT_.out (by kernel_rfl)) (by decide) (by decide) (fun K hK => ?_) (fun K hK => ?_)
      ·skip
       refine goes_ Try.func72 (by kernel_rfl) rfl #[.int .i64 a1_1, .int .i64 a2_1] (by rfl) rfl rfl (by (try simp only [List.map_toArray, List.map_cons, List.map_nil]); first | done | rfl) ?_
       with_reducible refine (spec_l3Min.calls a1_1 a2_1 t124 _ A5.out).mono ?_
       rintro e w' ⟨rfl, ⟨nd, rfl⟩⟩
       refine ⟨_, rfl, ?_⟩
       refine hK.out _ _ ⟨bc_ BK120.out 0, bc_ BK120.out 1, bc_ BK121.out 0, bc_ BK121.out 1⟩ (fun hHeld => ?_)
       clear hK K
       refine norm_ (a' := ?_) ?_ ?_
       rotate_left
       ·show Act.put _ (some 18) _ = _
        simp only [Act.put, x1_, x2_, x3_, i64_w, i32_w]
        rfl
       refine pure_ (i := 10) (N := some 19) (v := ?_) (a' := ?_) #[true, true, true, true, true, true, true, true, true, true, true, false, false] rfl rfl (any_of HT_.out (by kernel_rfl)) (fun _ _ _ h => h) (Or.inl ⟨by rfl, ?_⟩) ?_ ?_
       rotate_left
       ·intro w'
        go_simp
        with_reducible rfl
       rotate_left
       ·simp only [Act.put, x1_, x2_, x3_, i64_w, i32_w]
        rfl
       refine one_ (i := 11) (N := some 8) #[true, true, true, true, true, true, true, true, true, true, true, true, false] rfl rfl (one_of HT_.out (by kernel_rfl)) (by decide) (fun K hK => ?_)
       refine box_step ?hg (N := 8) ?hd (cs := #[.int .i64 0, .int .i64 0]) (t := 64) ?hr ?_; (case hd => rfl); (case hg => rfl); (case hr => first | (go_simp; done) | (go_simp; rfl))
       intro gb125 hg w15 hbox hb
       have n0_ := A_ (blk_below (bz_ BK120.out) hb)
       have n1_ := A_ (blk_below (bz_ BK121.out) hb)
       have n2_ := A_ (blk_below (bz_ BK122.out) hb)
       have n3_ := A_ (below_step (by repeat (first | (with_reducible first | exact HB.out | apply b1_ | apply b2_ | apply b3_ | apply c_ GE120 | apply c_ GE121 | apply c_ GE122) | exact HB.out)) hb)
       have n4_ := A_ (hbox)
       have n5_ := A_ (ge_ hg)
       have GE125 := n5_
       have NB120_125 := A_ (nl_ hg (bz_ BK120.out))
       have NB125_120 := A_ (ng_ hg (bz_ BK120.out))
       have NB121_125 := A_ (nl_ hg (bz_ BK121.out))
       have NB125_121 := A_ (ng_ hg (bz_ BK121.out))
       have NB122_125 := A_ (nl_ hg (bz_ BK122.out))
       have NB125_122 := A_ (ng_ hg (bz_ BK122.out))
       clear BK120 BK121
       clear BK122 HB
       have BK120 := n0_
       have BK121 := n1_
       have BK122 := n2_
       have HB := n3_
       have BK125 := n4_
       have GW125 := n5_
       clear n0_ n1_ n2_ n3_ n4_ n5_
       clear hb hbox hg
       refine hK.out _ _ ⟨bc_ BK120.out 0, bc_ BK120.out 1, bc_ BK121.out 0, bc_ BK121.out 1⟩ (fun hHeld => ?_)
       clear hK K
       refine norm_ (a' := ?_) ?_ ?_
       rotate_left
       ·show Act.put _ (some 8) _ = _
        simp only [Act.put, x1_, x2_, x3_, i64_w, i32_w]
        rfl
       exact norm_ (by simp only [putAll, Act.put, List.setIfInBounds_toArray, List.set_cons_zero, List.set_cons_succ]) (hCont (gb125) _ ⟨hHeld, (bz_ BK120.out), (bz_ BK121.out), (bz_ BK122.out), (bz_ BK125.out), GW125.out, GE125.out, NB120_125.out, NB125_120.out, NB121_125.out, NB125_121.out, NB122_125.out, NB125_122.out, (by repeat (first | (with_reducible first | exact HB.out | apply b1_ | apply b2_ | apply b3_ | apply c_ GE120 | apply c_ GE121 | apply c_ GE122 | apply c_ GE125) | exact HB.out))⟩)
      ·skip
       refine box_step ?hg (N := 8) ?hd (cs := #[.int .i64 0, .int .i64 0]) (t := 64) ?hr ?_; (case hd => rfl); (case hg => rfl); (case hr => first | (go_simp; done) | (go_simp; rfl))
       intro gb125 hg w15 hbox hb
       have n0_ := A_ (blk_below (bz_ BK120.out) hb)
       have n1_ := A_ (blk_below (bz_ BK121.out) hb)
       have n2_ := A_ (blk_below (bz_ BK122.out) hb)
       have n3_ := A_ (below_step (by repeat (first | (with_reducible first | exact HB.out | apply b1_ | apply b2_ | apply b3_ | apply c_ GE120 | apply c_ GE121 | apply c_ GE122) | exact HB.out)) hb)
       have n4_ := A_ (hbox)
       have n5_ := A_ (ge_ hg)
       have GE125 := n5_
       have NB120_125 := A_ (nl_ hg (bz_ BK120.out))
       have NB125_120 := A_ (ng_ hg (bz_ BK120.out))
       have NB121_125 := A_ (nl_ hg (bz_ BK121.out))
       have NB125_121 := A_ (ng_ hg (bz_ BK121.out))
       have NB122_125 := A_ (nl_ hg (bz_ BK122.out))
       have NB125_122 := A_ (ng_ hg (bz_ BK122.out))
       clear BK120 BK121
       clear BK122 HB
       have BK120 := n0_
       have BK121 := n1_
       have BK122 := n2_
       have HB := n3_
       have BK125 := n4_
       have GW125 := n5_
       clear n0_ n1_ n2_ n3_ n4_ n5_
       clear hb hbox hg
       refine hK.out _ _ ⟨bc_ BK120.out 0, bc_ BK120.out 1, bc_ BK121.out 0, bc_ BK121.out 1⟩ (fun hHeld => ?_)
       clear hK K
       refine norm_ (a' := ?_) ?_ ?_
       rotate_left
       ·show Act.put _ (some 8) _ = _
        simp only [Act.put, x1_, x2_, x3_, i64_w, i32_w]
        rfl
       refine one_ (i := 9) (N := some 18) #[true, true, true, true, true, true, true, true, true, true, false, true, false] rfl rfl (one_of HT_.out (by kernel_rfl)) (by decide) (fun K hK => ?_)
       refine goes_ Try.func72 (by kernel_rfl) rfl #[.int .i64 a1_1, .int .i64 a2_1] (by rfl) rfl rfl (by (try simp only [List.map_toArray, List.map_cons, List.map_nil]); first | done | rfl) ?_
       with_reducible refine (spec_l3Min.calls a1_1 a2_1 t124 _ A5.out).mono ?_
       rintro e w' ⟨rfl, ⟨nd, rfl⟩⟩
       refine ⟨_, rfl, ?_⟩
       refine hK.out _ _ ⟨bc_ BK120.out 0, bc_ BK120.out 1, bc_ BK121.out 0, bc_ BK121.out 1⟩ (fun hHeld => ?_)
       clear hK K
       refine norm_ (a' := ?_) ?_ ?_
       rotate_left
       ·show Act.put _ (some 18) _ = _
        simp only [Act.put, x1_, x2_, x3_, i64_w, i32_w]
        rfl
       refine pure_ (i := 10) (N := some 19) (v := ?_) (a' := ?_) #[true, true, true, true, true, true, true, true, true, true, true, true, false] rfl rfl (any_of HT_.out (by kernel_rfl)) (fun _ _ _ h => h) (Or.inl ⟨by rfl, ?_⟩) ?_ ?_
       rotate_left
       ·intro w'
        go_simp
        with_reducible rfl
       rotate_left
       ·simp only [Act.put, x1_, x2_, x3_, i64_w, i32_w]
        rfl
       exact norm_ (by simp only [putAll, Act.put, List.setIfInBounds_toArray, List.set_cons_zero, List.set_cons_succ]) (hCont (gb125) _ ⟨hHeld, (bz_ BK120.out), (bz_ BK121.out), (bz_ BK122.out), (bz_ BK125.out), GW125.out, GE125.out, NB120_125.out, NB125_120.out, NB121_125.out, NB125_121.out, NB122_125.out, NB125_122.out, (by repeat (first | (with_reducible first | exact HB.out | apply b1_ | apply b2_ | apply b3_ | apply c_ GE120 | apply c_ GE121 | apply c_ GE122 | apply c_ GE125) | exact HB.out))⟩)
     ·skip
      refine box_step ?hg (N := 8) ?hd (cs := #[.int .i64 0, .int .i64 0]) (t := 64) ?hr ?_; (case hd => rfl); (case hg => rfl); (case hr => first | (go_simp; done) | (go_simp; rfl))
      intro gb125 hg w15 hbox hb
      have n0_ := A_ (blk_below (bz_ BK120.out) hb)
      have n1_ := A_ (blk_below (bz_ BK121.out) hb)
      have n2_ := A_ (blk_below (bz_ BK122.out) hb)
      have n3_ := A_ (below_step (by repeat (first | (with_reducible first | exact HB.out | apply b1_ | apply b2_ | apply b3_ | apply c_ GE120 | apply c_ GE121 | apply c_ GE122) | exact HB.out)) hb)
      have n4_ := A_ (hbox)
      have n5_ := A_ (ge_ hg)
      have GE125 := n5_
      have NB120_125 := A_ (nl_ hg (bz_ BK120.out))
      have NB125_120 := A_ (ng_ hg (bz_ BK120.out))
      have NB121_125 := A_ (nl_ hg (bz_ BK121.out))
      have NB125_121 := A_ (ng_ hg (bz_ BK121.out))
      have NB122_125 := A_ (nl_ hg (bz_ BK122.out))
      have NB125_122 := A_ (ng_ hg (bz_ BK122.out))
      clear BK120 BK121
      clear BK122 HB
      have BK120 := n0_
      have BK121 := n1_
      have BK122 := n2_
      have HB := n3_
      have BK125 := n4_
      have GW125 := n5_
      clear n0_ n1_ n2_ n3_ n4_ n5_
      clear hb hbox hg
      refine hK.out _ _ ⟨bc_ BK120.out 0, bc_ BK120.out 1, bc_ BK121.out 0, bc_ BK121.out 1⟩ (fun hHeld => ?_)
      clear hK K
      refine norm_ (a' := ?_) ?_ ?_
      rotate_left
      ·show Act.put _ (some 8) _ = _
       simp only [Act.put, x1_, x2_, x3_, i64_w, i32_w]
       rfl
      refine one_ (i := 4) (N := some 13) #[true, true, true, true, true, true, true, true, true, false, false, true, false] rfl rfl (one_of HT_.out (by kernel_rfl)) (by decide) (fun K hK => ?_)
      refine goes_ Try.func71 (by kernel_rfl) rfl #[.int .i64 a1_0, .int .i64 a2_0] (by rfl) rfl rfl (by (try simp only [List.map_toArray, List.map_cons, List.map_nil]); first | done | rfl) ?_
      with_reducible refine (spec_l3Max.calls a1_0 a2_0 t123 _ A4.out).mono ?_
      rintro e w' ⟨rfl, ⟨nd, rfl⟩⟩
      refine ⟨_, rfl, ?_⟩
      refine hK.out _ _ ⟨bc_ BK120.out 0, bc_ BK120.out 1, bc_ BK121.out 0, bc_ BK121.out 1⟩ (fun hHeld => ?_)
      clear hK K
      refine norm_ (a' := ?_) ?_ ?_
      rotate_left
      ·show Act.put _ (some 13) _ = _
       simp only [Act.put, x1_, x2_, x3_, i64_w, i32_w]
       rfl
      refine one_ (i := 9) (N := some 18) #[true, true, true, true, true, true, true, true, true, true, false, true, false] rfl rfl (one_of HT_.out (by kernel_rfl)) (by decide) (fun K hK => ?_)
      refine goes_ Try.func72 (by kernel_rfl) rfl #[.int .i64 a1_1, .int .i64 a2_1] (by rfl) rfl rfl (by (try simp only [List.map_toArray, List.map_cons, List.map_nil]); first | done | rfl) ?_
      with_reducible refine (spec_l3Min.calls a1_1 a2_1 t124 _ A5.out).mono ?_
      rintro e w' ⟨rfl, ⟨nd, rfl⟩⟩
      refine ⟨_, rfl, ?_⟩
      refine hK.out _ _ ⟨bc_ BK120.out 0, bc_ BK120.out 1, bc_ BK121.out 0, bc_ BK121.out 1⟩ (fun hHeld => ?_)
      clear hK K
      refine norm_ (a' := ?_) ?_ ?_
      rotate_left
      ·show Act.put _ (some 18) _ = _
       simp only [Act.put, x1_, x2_, x3_, i64_w, i32_w]
       rfl
      refine pure_ (i := 10) (N := some 19) (v := ?_) (a' := ?_) #[true, true, true, true, true, true, true, true, true, true, true, true, false] rfl rfl (any_of HT_.out (by kernel_rfl)) (fun _ _ _ h => h) (Or.inl ⟨by rfl, ?_⟩) ?_ ?_
      rotate_left
      ·intro w'
       go_simp
       with_reducible rfl
      rotate_left
      ·simp only [Act.put, x1_, x2_, x3_, i64_w, i32_w]
       rfl
      exact norm_ (by simp only [putAll, Act.put, List.setIfInBounds_toArray, List.set_cons_zero, List.set_cons_succ]) (hCont (gb125) _ ⟨hHeld, (bz_ BK120.out), (bz_ BK121.out), (bz_ BK122.out), (bz_ BK125.out), GW125.out, GE125.out, NB120_125.out, NB125_120.out, NB121_125.out, NB125_121.out, NB122_125.out, NB125_122.out, (by repeat (first | (with_reducible first | exact HB.out | apply b1_ | apply b2_ | apply b3_ | apply c_ GE120 | apply c_ GE121 | apply c_ GE122 | apply c_ GE125) | exact HB.out))⟩)
    rintro gb125 w16 ⟨hS_, h0_, h1_, h2_, h3_, h4_, h5_, h6_, h7_, h8_, h9_, h10_, h11_, h12_⟩
    have n0_ : Aside0 (w16.heap[gb120]? = some (.cells #[.int .i64 a1_0, .int .i64 a1_1] 64 (0, 0))) := ⟨h0_⟩
    have n1_ : Aside0 (w16.heap[gb121]? = some (.cells #[.int .i64 a2_0, .int .i64 a2_1] 64 (0, 0))) := ⟨h1_⟩
    have n2_ : Aside0 (w16.heap[gb122]? = some (.cells #[.int .i64 0, .int .i64 0] 64 (0, 0))) := ⟨h2_⟩
    have n3_ : Aside0 (w16.heap[gb125]? = some (.cells #[.int .i64 0, .int .i64 0] 64 (0, 0))) := ⟨h3_⟩
    have GW125 : Aside0 (w.heap.size ≤ gb125) := ⟨h4_⟩
    have GE125 : Aside0 (w.heap.size ≤ gb125) := ⟨h5_⟩
    have NB120_125 := A_ h6_
    have NB125_120 := A_ h7_
    have NB121_125 := A_ h8_
    have NB125_121 := A_ h9_
    have NB122_125 := A_ h10_
    have NB125_122 := A_ h11_
    have n12_ : Aside0 (Below w.heap.size w w16) := ⟨h12_⟩
    clear BK120 BK121
    clear BK122 HB
    clear h0_ h1_ h2_ h3_ h4_ h5_ h6_ h7_ h8_ h9_ h10_ h11_ h12_
    have BK120 := n0_
    have BK121 := n1_
    have BK122 := n2_
    have BK125 := n3_
    have HB := n12_
    clear n0_ n1_ n2_ n3_ n12_
    have hHeld : w16.cell? ⟨gb120, 0, none⟩ = some (.int .i64 a1_0) ∧ w16.cell? ⟨gb120, 1, none⟩ = some (.int .i64 a1_1) ∧ w16.cell? ⟨gb121, 0, none⟩ = some (.int .i64 a2_0) ∧ w16.cell? ⟨gb121, 1, none⟩ = some (.int .i64 a2_1) := hS_
    refine norm_ (a' := ?_) ?_ ?_
    rotate_left
    ·simp only [putAll, Act.put, List.setIfInBounds_toArray, List.set_cons_zero, List.set_cons_succ]
     rfl
    refine one_ (i := 12) (N := none) #[true, true, true, true, true, true, true, true, true, true, true, true, true] rfl rfl (one_of HT_.out (by kernel_rfl)) (by decide) (fun K hK => ?_)
    have hs17 : w16.cell? ⟨gb125, 0, none⟩ = some (.int .i64 0) := bc_ BK125.out 0
    have hfs17 := blk_frozen BK125.out 0
    have hns17_0 := NB120_125.out
    have hns17_1 := NB121_125.out
    have hns17_2 := NB122_125.out
    have hms17_0 := NB125_120.out
    have hms17_1 := NB125_121.out
    have hms17_2 := NB125_122.out
    have hs18 : w16.cell? ⟨gb125, 1, none⟩ = some (.int .i64 0) := bc_ BK125.out 1
    have hfs18 := blk_frozen BK125.out 1
    have hns18_0 := NB120_125.out
    have hns18_1 := NB121_125.out
    have hns18_2 := NB122_125.out
    have hms18_0 := NB125_120.out
    have hms18_1 := NB125_121.out
    have hms18_2 := NB125_122.out
    refine skip_ (w1 := ?_) (by rfl) rfl ?_ ?_
    rotate_left
    ·go_simp
     rfl
    refine hK.out _ _ ⟨((cell_far (p := ⟨gb125, _, none⟩) NB120_125.out _).trans (((cell_far (p := ⟨gb125, _, none⟩) NB120_125.out _).trans (hHeld.1)))), ((cell_far (p := ⟨gb125, _, none⟩) NB120_125.out _).trans (((cell_far (p := ⟨gb125, _, none⟩) NB120_125.out _).trans (hHeld.2.1)))), ((cell_far (p := ⟨gb125, _, none⟩) NB121_125.out _).trans (((cell_far (p := ⟨gb125, _, none⟩) NB121_125.out _).trans (hHeld.2.2.1)))), ((cell_far (p := ⟨gb125, _, none⟩) NB121_125.out _).trans (((cell_far (p := ⟨gb125, _, none⟩) NB121_125.out _).trans (hHeld.2.2.2))))⟩ (fun hHeld => ?_)
    clear hK K
    refine done_ (done_of HT_.out (by kernel_rfl)) ?_
    have hnb19 := NB120_121.out
    have hnc19 := NB121_120.out
    have hnb20 := NB120_122.out
    have hnc20 := NB122_120.out
    have hnb21 := NB120_125.out
    have hnc21 := NB125_120.out
    have hcz22_0 : w16.cell? ⟨gb120, 0, none⟩ = some (.int .i64 a1_0) := bc_ BK120.out 0
    have hcz22_1 : w16.cell? ⟨gb120, 1, none⟩ = some (.int .i64 a1_1) := bc_ BK120.out 1
    have hfz22_0 := blk_frozen BK120.out 0
    have hfz22_1 := blk_frozen BK120.out 1
    try go_wp2_with (first | ((with_reducible refine gate_callee (f := 49) rfl ?_); refine goesL_ (some 22) rfl rfl Try.func49 (by kernel_rfl) rfl #[.int .i64 a0, .agg #[.int .i64 a1_0, .int .i64 a1_1]] rfl (by (try simp only [List.map_toArray, List.map_cons, List.map_nil]); first | done | rfl) ?_; (with_reducible refine (spec_PairOk.calls a0 a1_0 a1_1 true _ A6.out).mono ?_); rintro e w23 ⟨rfl, hb⟩; refine ⟨_, rfl, ?_⟩; have n0_ := A_ (blk_below (g := gb120) (o := .cells #[.int .i64 a1_0, .int .i64 a1_1] 64 (0, 0)) (by (with_reducible repeat (first | apply bn_ | apply bd_ | apply ba_)); refine blk_far ?_ NB120_125.out _; (with_reducible repeat (first | apply bn_ | apply bd_ | apply ba_)); refine blk_far ?_ NB120_125.out _; (with_reducible repeat (first | apply bn_ | apply bd_ | apply ba_)); exact BK120.out) hb); have n1_ := A_ (blk_below (g := gb121) (o := .cells #[.int .i64 a2_0, .int .i64 a2_1] 64 (0, 0)) (by (with_reducible repeat (first | apply bn_ | apply bd_ | apply ba_)); refine blk_far ?_ NB121_125.out _; (with_reducible repeat (first | apply bn_ | apply bd_ | apply ba_)); refine blk_far ?_ NB121_125.out _; (with_reducible repeat (first | apply bn_ | apply bd_ | apply ba_)); exact BK121.out) hb); have n2_ := A_ (blk_below (g := gb122) (o := .cells #[.int .i64 0, .int .i64 0] 64 (0, 0)) (by (with_reducible repeat (first | apply bn_ | apply bd_ | apply ba_)); refine blk_far ?_ NB122_125.out _; (with_reducible repeat (first | apply bn_ | apply bd_ | apply ba_)); refine blk_far ?_ NB122_125.out _; (with_reducible repeat (first | apply bn_ | apply bd_ | apply ba_)); exact BK122.out) hb); have n3_ := A_ (blk_below (g := gb125) (o := .cells #[.int .i64 t123, .int .i64 t124] 64 (0, 0)) (by (with_reducible repeat (first | apply bn_ | apply bd_ | apply ba_)); refine blk_put (cs := #[.int .i64 t123, .int .i64 0]) ?_ 1 _ (by first | rfl | (simp [*]; done)); (with_reducible repeat (first | apply bn_ | apply bd_ | apply ba_)); refine blk_put (cs := #[.int .i64 0, .int .i64 0]) ?_ 0 _ (by first | rfl | (simp [*]; done)); (with_reducible repeat (first | apply bn_ | apply bd_ | apply ba_)); exact BK125.out) hb); have n4_ := A_ (below_step (by repeat (first | (with_reducible first | exact HB.out | apply b1_ | apply b2_ | apply b3_ | apply c_ GE120 | apply c_ GE121 | apply c_ GE122 | apply c_ GE125) | exact HB.out)) hb); clear BK120 BK121 BK122 BK125 HB; have BK120 := n0_; have BK121 := n1_; have BK122 := n2_; have BK125 := n3_; have HB := n4_; clear n0_ n1_ n2_ n3_ n4_; (try clear hb); (try clear hb2); (try clear hk); (try clear hi); have hnb24 := NB121_122.out; have hnc24 := NB122_121.out; have hnb25 := NB121_125.out; have hnc25 := NB125_121.out; have hcz26_0 : w23.cell? ⟨gb121, 0, none⟩ = some (.int .i64 a2_0) := bc_ BK121.out 0; have hcz26_1 : w23.cell? ⟨gb121, 1, none⟩ = some (.int .i64 a2_1) := bc_ BK121.out 1; have hfz26_0 := blk_frozen BK121.out 0; have hfz26_1 := blk_frozen BK121.out 1) | (go_at_call 49; (with_reducible refine (spec_PairOk.calls a0 a2_0 a2_1 true _ A8.out).mono ?_); rintro e w27 ⟨rfl, hb⟩; have n0_ := A_ (blk_below (bz_ BK120.out) hb); have n1_ := A_ (blk_below (bz_ BK121.out) hb); have n2_ := A_ (blk_below (bz_ BK122.out) hb); have n3_ := A_ (blk_below (bz_ BK125.out) hb); have n4_ := A_ (below_step (by repeat (first | (with_reducible first | exact HB.out | apply b1_ | apply b2_ | apply b3_ | apply c_ GE120 | apply c_ GE121 | apply c_ GE122 | apply c_ GE125) | exact HB.out)) hb); clear BK120 BK121 BK122 BK125 HB; have BK120 := n0_; have BK121 := n1_; have BK122 := n2_; have BK125 := n3_; have HB := n4_; clear n0_ n1_ n2_ n3_ n4_; (try clear hb); (try clear hb2); (try clear hk); (try clear hi); have hnb28 := NB125_122.out; have hnc28 := NB122_125.out; have hcz29_0 : w27.cell? ⟨gb125, 0, none⟩ = some (.int .i64 t123) := bc_ BK125.out 0; have hcz29_1 : w27.cell? ⟨gb125, 1, none⟩ = some (.int .i64 t124) := bc_ BK125.out 1; have hfz29_0 := blk_frozen BK125.out 0; have hfz29_1 := blk_frozen BK125.out 1; have hcz30_0 : w27.cell? ⟨gb122, 0, none⟩ = some (.int .i64 0) := bc_ BK122.out 0; have hcz30_1 : w27.cell? ⟨gb122, 1, none⟩ = some (.int .i64 0) := bc_ BK122.out 1; have hfz30_0 := blk_frozen BK122.out 0; have hfz30_1 := blk_frozen BK122.out 1))
    refine bodyPost_ret (results_ct rfl _ _ gb122 64 #[.int .i64 0, .int .i64 0] (0, 0) _ rfl (by (with_reducible repeat (first | apply bn_ | apply bd_ | apply ba_)); refine blk_put (cs := #[.int .i64 0, .int .i64 0]) ?_ 1 _ (by first | rfl | (simp [*]; done)); (with_reducible repeat (first | apply bn_ | apply bd_ | apply ba_)); refine blk_put (cs := #[.int .i64 0, .int .i64 0]) ?_ 0 _ (by first | rfl | (simp [*]; done)); (with_reducible repeat (first | apply bn_ | apply bd_ | apply ba_)); exact BK122.out) Try.underlying64 rfl (by kernel_rfl)) rfl ?_
    exact ⟨by first | rfl | (simp [errW_none, errW_some] <;> rfl) | (simp [*, errW_none, errW_some] <;> rfl), by repeat (first | (with_reducible first | exact HB.out | apply b1_ | apply b2_ | apply b3_ | apply c_ GE120 | apply c_ GE121 | apply c_ GE122 | apply c_ GE125) | exact HB.out)⟩
   ·rw [if_neg c10] at H
    have c10b0 : decide (t124 < t123) = false := decide_eq_false c10
    clear c10
    simp only [Option.some.injEq, Prod.mk.injEq] at H
    obtain ⟨rfl, rfl, rfl⟩ := H
    go_enter Try.func56, Try.ntmps56
    try go_wp2_with (first | ((with_reducible refine gate_dst (N := 4) rfl ?_); refine box_event ?hg (N := 4) ?hd (cs := #[.int .i64 a1_0, .int .i64 a1_1]) (t := 64) ?hr ?_; (case hd => rfl); (case hg => rfl); (case hr => first | (go_simp; done) | (go_simp; rfl)); intro gb120 hg w31 hbox hb; have n0_ := A_ (below_step (by repeat (first | (with_reducible first | exact HB.out | apply b1_ | apply b2_ | apply b3_) | exact HB.out)) hb); have n1_ := A_ (hbox); have n2_ := A_ (ge_ hg); have n3_ := n2_; clear HB; have HB := n0_; have BK120 := n1_; have GW120 := n2_; have GE120 := n3_; clear n0_ n1_ n2_ n3_; clear hb hbox hg) | ((with_reducible refine gate_dst (N := 5) rfl ?_); refine box_event ?hg (N := 5) ?hd (cs := #[.int .i64 a2_0, .int .i64 a2_1]) (t := 64) ?hr ?_; (case hd => rfl); (case hg => rfl); (case hr => first | (go_simp; done) | (go_simp; rfl)); intro gb121 hg w32 hbox hb; have n0_ := A_ (blk_below (bz_ BK120.out) hb); have n1_ := A_ (below_step (by repeat (first | (with_reducible first | exact HB.out | apply b1_ | apply b2_ | apply b3_ | apply c_ GE120) | exact HB.out)) hb); have n2_ := A_ (hbox); have n3_ := A_ (ge_ hg); have n4_ := n3_; have n5_ := A_ (nl_ hg (bz_ BK120.out)); have n6_ := A_ (ng_ hg (bz_ BK120.out)); clear BK120 HB; have BK120 := n0_; have HB := n1_; have BK121 := n2_; have GW121 := n3_; have GE121 := n4_; have NB120_121 := n5_; have NB121_120 := n6_; clear n0_ n1_ n2_ n3_ n4_ n5_ n6_; clear hb hbox hg) | ((with_reducible refine gate_dst (N := 6) rfl ?_); refine box_event ?hg (N := 6) ?hd (cs := #[.int .i64 0, .int .i64 0]) (t := 64) ?hr ?_; (case hd => rfl); (case hg => rfl); (case hr => first | (go_simp; done) | (go_simp; rfl)); intro gb122 hg w33 hbox hb; have n0_ := A_ (blk_below (bz_ BK120.out) hb); have n1_ := A_ (blk_below (bz_ BK121.out) hb); have n2_ := A_ (below_step (by repeat (first | (with_reducible first | exact HB.out | apply b1_ | apply b2_ | apply b3_ | apply c_ GE120 | apply c_ GE121) | exact HB.out)) hb); have n3_ := A_ (hbox); have n4_ := A_ (ge_ hg); have n5_ := n4_; have n6_ := A_ (nl_ hg (bz_ BK120.out)); have n7_ := A_ (ng_ hg (bz_ BK120.out)); have n8_ := A_ (nl_ hg (bz_ BK121.out)); have n9_ := A_ (ng_ hg (bz_ BK121.out)); clear BK120 BK121 HB; have BK120 := n0_; have BK121 := n1_; have HB := n2_; have BK122 := n3_; have GW122 := n4_; have GE122 := n5_; have NB120_122 := n6_; have NB122_120 := n7_; have NB121_122 := n8_; have NB122_121 := n9_; clear n0_ n1_ n2_ n3_ n4_ n5_ n6_ n7_ n8_ n9_; clear hb hbox hg))
    have n0_ := A_ (blk_drew BK120.out)
    have n1_ := A_ (blk_drew BK121.out)
    have n2_ := A_ (blk_drew BK122.out)
    have n3_ := A_ (below_drew1 HB.out)
    clear BK120 BK121
    clear BK122 HB
    have BK120 := n0_
    have BK121 := n1_
    have BK122 := n2_
    have HB := n3_
    clear n0_ n1_ n2_ n3_
    refine start_ (n := 13) (S := fun w' => w'.cell? ⟨gb120, 0, none⟩ = some (.int .i64 a1_0) ∧ w'.cell? ⟨gb120, 1, none⟩ = some (.int .i64 a1_1) ∧ w'.cell? ⟨gb121, 0, none⟩ = some (.int .i64 a2_0) ∧ w'.cell? ⟨gb121, 1, none⟩ = some (.int .i64 a2_1)) (ds := []) #[false, false, false, false, false, false, false, false, false, false, false, false, false] (by kernel_rfl) rfl rfl ⟨bc_ BK120.out 0, bc_ BK120.out 1, bc_ BK121.out 0, bc_ BK121.out 1⟩ (fun hHeld => ?_); refine with_tabW spec_PairMeet.tab1 spec_PairMeet.bits1 (fun HT_ HW_ => ?_)
    generalize w33.drew = w34 at BK120 BK121 BK122 HB hHeld ⊢
    refine pure_ (i := 0) (N := some 9) (v := ?_) (a' := ?_) #[true, false, false, false, false, false, false, false, false, false, false, false, false] rfl rfl (any_of HT_.out (by kernel_rfl)) (fun _ _ _ h => h) (Or.inl ⟨by rfl, ?_⟩) ?_ ?_
    rotate_left
    ·intro w'
     go_simp
     with_reducible rfl
    rotate_left
    ·simp only [Act.put, x1_, x2_, x3_, i64_w, i32_w]
     rfl
    refine pure_ (i := 2) (N := some 11) (v := ?_) (a' := ?_) #[true, false, true, false, false, false, false, false, false, false, false, false, false] rfl rfl (any_of HT_.out (by kernel_rfl)) (fun _ _ _ h => h) (Or.inl ⟨by rfl, ?_⟩) ?_ ?_
    rotate_left
    ·intro w'
     go_simp
     with_reducible rfl
    rotate_left
    ·simp only [Act.put, x1_, x2_, x3_, i64_w, i32_w]
     rfl
    refine pure_ (i := 5) (N := some 14) (v := ?_) (a' := ?_) #[true, false, true, false, false, true, false, false, false, false, false, false, false] rfl rfl (any_of HT_.out (by kernel_rfl)) (fun _ _ _ h => h) (Or.inl ⟨by rfl, ?_⟩) ?_ ?_
    rotate_left
    ·intro w'
     go_simp
     with_reducible rfl
    rotate_left
    ·simp only [Act.put, x1_, x2_, x3_, i64_w, i32_w]
     rfl
    refine pure_ (i := 7) (N := some 16) (v := ?_) (a' := ?_) #[true, false, true, false, false, true, false, true, false, false, false, false, false] rfl rfl (any_of HT_.out (by kernel_rfl)) (fun _ _ _ h => h) (Or.inl ⟨by rfl, ?_⟩) ?_ ?_
    rotate_left
    ·intro w'
     go_simp
     with_reducible rfl
    rotate_left
    ·simp only [Act.put, x1_, x2_, x3_, i64_w, i32_w]
     rfl
    refine take_ (i := 1) (N := some 10) (v := ?_) (a' := ?_) #[true, true, true, false, false, true, false, true, false, false, false, false, false] rfl rfl (take_ofW HT_.out HW_.out (by kernel_rfl)) (fun _ _ _ h => h) (Or.inl ⟨by rfl, ?_⟩) hHeld ?_ ?_
    rotate_left
    ·rintro w' ⟨s0, s1, s2, s3⟩
     go_simp
     with_reducible rfl
    rotate_left
    ·simp only [Act.put, x1_, x2_, x3_, i64_w, i32_w]
     rfl
    refine take_ (i := 3) (N := some 12) (v := ?_) (a' := ?_) #[true, true, true, true, false, true, false, true, false, false, false, false, false] rfl rfl (take_ofW HT_.out HW_.out (by kernel_rfl)) (fun _ _ _ h => h) (Or.inl ⟨by rfl, ?_⟩) hHeld ?_ ?_
    rotate_left
    ·rintro w' ⟨s0, s1, s2, s3⟩
     go_simp
     with_reducible rfl
    rotate_left
    ·simp only [Act.put, x1_, x2_, x3_, i64_w, i32_w]
     rfl
    refine take_ (i := 6) (N := some 15) (v := ?_) (a' := ?_) #[true, true, true, true, false, true, true, true, false, false, false, false, false] rfl rfl (take_ofW HT_.out HW_.out (by kernel_rfl)) (fun _ _ _ h => h) (Or.inl ⟨by rfl, ?_⟩) hHeld ?_ ?_
    rotate_left
    ·rintro w' ⟨s0, s1, s2, s3⟩
     go_simp
     with_reducible rfl
    rotate_left
    ·simp only [Act.put, x1_, x2_, x3_, i64_w, i32_w]
     rfl
    refine take_ (i := 8) (N := some 17) (v := ?_) (a' := ?_) #[true, true, true, true, false, true, true, true, true, false, false, false, false] rfl rfl (take_ofW HT_.out HW_.out (by kernel_rfl)) (fun _ _ _ h => h) (Or.inl ⟨by rfl, ?_⟩) hHeld ?_ ?_
    rotate_left
    ·rintro w' ⟨s0, s1, s2, s3⟩
     go_simp
     with_reducible rfl
    rotate_left
    ·simp only [Act.put, x1_, x2_, x3_, i64_w, i32_w]
     rfl
    refine join_ (σ := Nat) 1 #[true, true, true, true, true, true, true, true, true, true, true, true, false] (fun s_ => [(13, .int .i64 t123), (18, .int .i64 t124), (8, .pointer (some ⟨s_, 0, none⟩)), (19, .agg #[.int .i64 t123, .int .i64 t124])]) (fun s_ w' => (w'.cell? ⟨gb120, 0, none⟩ = some (.int .i64 a1_0) ∧ w'.cell? ⟨gb120, 1, none⟩ = some (.int .i64 a1_1) ∧ w'.cell? ⟨gb121, 0, none⟩ = some (.int .i64 a2_0) ∧ w'.cell? ⟨gb121, 1, none⟩ = some (.int .i64 a2_1)) ∧ (w'.heap[gb120]? = some (.cells #[.int .i64 a1_0, .int .i64 a1_1] 64 (0, 0))) ∧ (w'.heap[gb121]? = some (.cells #[.int .i64 a2_0, .int .i64 a2_1] 64 (0, 0))) ∧ (w'.heap[gb122]? = some (.cells #[.int .i64 0, .int .i64 0] 64 (0, 0))) ∧ (w'.heap[s_]? = some (.cells #[.int .i64 0, .int .i64 0] 64 (0, 0))) ∧ (w.heap.size ≤ s_) ∧ (w.heap.size ≤ s_) ∧ (gb120 ≠ s_) ∧ (s_ ≠ gb120) ∧ (gb121 ≠ s_) ∧ (s_ ≠ gb121) ∧ (gb122 ≠ s_) ∧ (s_ ≠ gb122) ∧ (Below w.heap.size w w')) ?_ ?_
    rotate_left
    ·intro hCont
     refine two_ (i := 4) (j := 11) (Ni := some 13) (Nj := some 8) #[true, true, true, true, true, true, true, true, true, false, false, false, false] #[true, true, true, true, false, true, true, true, true, false, false, true, false] rfl rfl rfl rfl (two_of HT_.out (by kernel_rfl)) (by decide) (by decide) (fun K hK => ?_) (fun K hK => ?_)
     ·skip
      refine goes_ Try.func71 (by kernel_rfl) rfl #[.int .i64 a1_0, .int .i64 a2_0] (by rfl) rfl rfl (by (try simp only [List.map_toArray, List.map_cons, List.map_nil]); first | done | rfl) ?_
      with_reducible refine (spec_l3Max.calls a1_0 a2_0 t123 _ A4.out).mono ?_
      rintro e w' ⟨rfl, ⟨nd, rfl⟩⟩
      refine ⟨_, rfl, ?_⟩
      refine hK.out _ _ ⟨bc_ BK120.out 0, bc_ BK120.out 1, bc_ BK121.out 0, bc_ BK121.out 1⟩ (fun hHeld => ?_)
      clear hK K
      refine norm_ (a' := ?_) ?_ ?_
      rotate_left
      ·show Act.put _ (some 13) _ = _
       simp only [Act.put, x1_, x2_, x3_, i64_w, i32_w]
       rfl
      refine two_ (i := 9) (j := 11) (Ni := some 18) (Nj := some 8) #[true, true, true, true, true, true, true, true, true, true, false, false, false] #[true, true, true, true, true, true, true, true, true, false, false, true, false] rfl rfl rfl rfl (two_of HT_.out (by kernel_rfl)) (by decide) (by decide) (fun K hK => ?_) (fun K hK => ?_)
      ·skip
       refine goes_ Try.func72 (by kernel_rfl) rfl #[.int .i64 a1_1, .int .i64 a2_1] (by rfl) rfl rfl (by (try simp only [List.map_toArray, List.map_cons, List.map_nil]); first | done | rfl) ?_
       with_reducible refine (spec_l3Min.calls a1_1 a2_1 t124 _ A5.out).mono ?_
       rintro e w' ⟨rfl, ⟨nd, rfl⟩⟩
       refine ⟨_, rfl, ?_⟩
       refine hK.out _ _ ⟨bc_ BK120.out 0, bc_ BK120.out 1, bc_ BK121.out 0, bc_ BK121.out 1⟩ (fun hHeld => ?_)
       clear hK K
       refine norm_ (a' := ?_) ?_ ?_
       rotate_left
       ·show Act.put _ (some 18) _ = _
        simp only [Act.put, x1_, x2_, x3_, i64_w, i32_w]
        rfl
       refine pure_ (i := 10) (N := some 19) (v := ?_) (a' := ?_) #[true, true, true, true, true, true, true, true, true, true, true, false, false] rfl rfl (any_of HT_.out (by kernel_rfl)) (fun _ _ _ h => h) (Or.inl ⟨by rfl, ?_⟩) ?_ ?_
       rotate_left
       ·intro w'
        go_simp
        with_reducible rfl
       rotate_left
       ·simp only [Act.put, x1_, x2_, x3_, i64_w, i32_w]
        rfl
       refine one_ (i := 11) (N := some 8) #[true, true, true, true, true, true, true, true, true, true, true, true, false] rfl rfl (one_of HT_.out (by kernel_rfl)) (by decide) (fun K hK => ?_)
       refine box_step ?hg (N := 8) ?hd (cs := #[.int .i64 0, .int .i64 0]) (t := 64) ?hr ?_; (case hd => rfl); (case hg => rfl); (case hr => first | (go_simp; done) | (go_simp; rfl))
       intro gb125 hg w35 hbox hb
       have n0_ := A_ (blk_below (bz_ BK120.out) hb)
       have n1_ := A_ (blk_below (bz_ BK121.out) hb)
       have n2_ := A_ (blk_below (bz_ BK122.out) hb)
       have n3_ := A_ (below_step (by repeat (first | (with_reducible first | exact HB.out | apply b1_ | apply b2_ | apply b3_ | apply c_ GE120 | apply c_ GE121 | apply c_ GE122) | exact HB.out)) hb)
       have n4_ := A_ (hbox)
       have n5_ := A_ (ge_ hg)
       have GE125 := n5_
       have NB120_125 := A_ (nl_ hg (bz_ BK120.out))
       have NB125_120 := A_ (ng_ hg (bz_ BK120.out))
       have NB121_125 := A_ (nl_ hg (bz_ BK121.out))
       have NB125_121 := A_ (ng_ hg (bz_ BK121.out))
       have NB122_125 := A_ (nl_ hg (bz_ BK122.out))
       have NB125_122 := A_ (ng_ hg (bz_ BK122.out))
       clear BK120 BK121
       clear BK122 HB
       have BK120 := n0_
       have BK121 := n1_
       have BK122 := n2_
       have HB := n3_
       have BK125 := n4_
       have GW125 := n5_
       clear n0_ n1_ n2_ n3_ n4_ n5_
       clear hb hbox hg
       refine hK.out _ _ ⟨bc_ BK120.out 0, bc_ BK120.out 1, bc_ BK121.out 0, bc_ BK121.out 1⟩ (fun hHeld => ?_)
       clear hK K
       refine norm_ (a' := ?_) ?_ ?_
       rotate_left
       ·show Act.put _ (some 8) _ = _
        simp only [Act.put, x1_, x2_, x3_, i64_w, i32_w]
        rfl
       exact norm_ (by simp only [putAll, Act.put, List.setIfInBounds_toArray, List.set_cons_zero, List.set_cons_succ]) (hCont (gb125) _ ⟨hHeld, (bz_ BK120.out), (bz_ BK121.out), (bz_ BK122.out), (bz_ BK125.out), GW125.out, GE125.out, NB120_125.out, NB125_120.out, NB121_125.out, NB125_121.out, NB122_125.out, NB125_122.out, (by repeat (first | (with_reducible first | exact HB.out | apply b1_ | apply b2_ | apply b3_ | apply c_ GE120 | apply c_ GE121 | apply c_ GE122 | apply c_ GE125) | exact HB.out))⟩)
      ·skip
       refine box_step ?hg (N := 8) ?hd (cs := #[.int .i64 0, .int .i64 0]) (t := 64) ?hr ?_; (case hd => rfl); (case hg => rfl); (case hr => first | (go_simp; done) | (go_simp; rfl))
       intro gb125 hg w35 hbox hb
       have n0_ := A_ (blk_below (bz_ BK120.out) hb)
       have n1_ := A_ (blk_below (bz_ BK121.out) hb)
       have n2_ := A_ (blk_below (bz_ BK122.out) hb)
       have n3_ := A_ (below_step (by repeat (first | (with_reducible first | exact HB.out | apply b1_ | apply b2_ | apply b3_ | apply c_ GE120 | apply c_ GE121 | apply c_ GE122) | exact HB.out)) hb)
       have n4_ := A_ (hbox)
       have n5_ := A_ (ge_ hg)
       have GE125 := n5_
       have NB120_125 := A_ (nl_ hg (bz_ BK120.out))
       have NB125_120 := A_ (ng_ hg (bz_ BK120.out))
       have NB121_125 := A_ (nl_ hg (bz_ BK121.out))
       have NB125_121 := A_ (ng_ hg (bz_ BK121.out))
       have NB122_125 := A_ (nl_ hg (bz_ BK122.out))
       have NB125_122 := A_ (ng_ hg (bz_ BK122.out))
       clear BK120 BK121
       clear BK122 HB
       have BK120 := n0_
       have BK121 := n1_
       have BK122 := n2_
       have HB := n3_
       have BK125 := n4_
       have GW125 := n5_
       clear n0_ n1_ n2_ n3_ n4_ n5_
       clear hb hbox hg
       refine hK.out _ _ ⟨bc_ BK120.out 0, bc_ BK120.out 1, bc_ BK121.out 0, bc_ BK121.out 1⟩ (fun hHeld => ?_)
       clear hK K
       refine norm_ (a' := ?_) ?_ ?_
       rotate_left
       ·show Act.put _ (some 8) _ = _
        simp only [Act.put, x1_, x2_, x3_, i64_w, i32_w]
        rfl
       refine one_ (i := 9) (N := some 18) #[true, true, true, true, true, true, true, true, true, true, false, true, false] rfl rfl (one_of HT_.out (by kernel_rfl)) (by decide) (fun K hK => ?_)
       refine goes_ Try.func72 (by kernel_rfl) rfl #[.int .i64 a1_1, .int .i64 a2_1] (by rfl) rfl rfl (by (try simp only [List.map_toArray, List.map_cons, List.map_nil]); first | done | rfl) ?_
       with_reducible refine (spec_l3Min.calls a1_1 a2_1 t124 _ A5.out).mono ?_
       rintro e w' ⟨rfl, ⟨nd, rfl⟩⟩
       refine ⟨_, rfl, ?_⟩
       refine hK.out _ _ ⟨bc_ BK120.out 0, bc_ BK120.out 1, bc_ BK121.out 0, bc_ BK121.out 1⟩ (fun hHeld => ?_)
       clear hK K
       refine norm_ (a' := ?_) ?_ ?_
       rotate_left
       ·show Act.put _ (some 18) _ = _
        simp only [Act.put, x1_, x2_, x3_, i64_w, i32_w]
        rfl
       refine pure_ (i := 10) (N := some 19) (v := ?_) (a' := ?_) #[true, true, true, true, true, true, true, true, true, true, true, true, false] rfl rfl (any_of HT_.out (by kernel_rfl)) (fun _ _ _ h => h) (Or.inl ⟨by rfl, ?_⟩) ?_ ?_
       rotate_left
       ·intro w'
        go_simp
        with_reducible rfl
       rotate_left
       ·simp only [Act.put, x1_, x2_, x3_, i64_w, i32_w]
        rfl
       exact norm_ (by simp only [putAll, Act.put, List.setIfInBounds_toArray, List.set_cons_zero, List.set_cons_succ]) (hCont (gb125) _ ⟨hHeld, (bz_ BK120.out), (bz_ BK121.out), (bz_ BK122.out), (bz_ BK125.out), GW125.out, GE125.out, NB120_125.out, NB125_120.out, NB121_125.out, NB125_121.out, NB122_125.out, NB125_122.out, (by repeat (first | (with_reducible first | exact HB.out | apply b1_ | apply b2_ | apply b3_ | apply c_ GE120 | apply c_ GE121 | apply c_ GE122 | apply c_ GE125) | exact HB.out))⟩)
     ·skip
      refine box_step ?hg (N := 8) ?hd (cs := #[.int .i64 0, .int .i64 0]) (t := 64) ?hr ?_; (case hd => rfl); (case hg => rfl); (case hr => first | (go_simp; done) | (go_simp; rfl))
      intro gb125 hg w35 hbox hb
      have n0_ := A_ (blk_below (bz_ BK120.out) hb)
      have n1_ := A_ (blk_below (bz_ BK121.out) hb)
      have n2_ := A_ (blk_below (bz_ BK122.out) hb)
      have n3_ := A_ (below_step (by repeat (first | (with_reducible first | exact HB.out | apply b1_ | apply b2_ | apply b3_ | apply c_ GE120 | apply c_ GE121 | apply c_ GE122) | exact HB.out)) hb)
      have n4_ := A_ (hbox)
      have n5_ := A_ (ge_ hg)
      have GE125 := n5_
      have NB120_125 := A_ (nl_ hg (bz_ BK120.out))
      have NB125_120 := A_ (ng_ hg (bz_ BK120.out))
      have NB121_125 := A_ (nl_ hg (bz_ BK121.out))
      have NB125_121 := A_ (ng_ hg (bz_ BK121.out))
      have NB122_125 := A_ (nl_ hg (bz_ BK122.out))
      have NB125_122 := A_ (ng_ hg (bz_ BK122.out))
      clear BK120 BK121
      clear BK122 HB
      have BK120 := n0_
      have BK121 := n1_
      have BK122 := n2_
      have HB := n3_
      have BK125 := n4_
      have GW125 := n5_
      clear n0_ n1_ n2_ n3_ n4_ n5_
      clear hb hbox hg
      refine hK.out _ _ ⟨bc_ BK120.out 0, bc_ BK120.out 1, bc_ BK121.out 0, bc_ BK121.out 1⟩ (fun hHeld => ?_)
      clear hK K
      refine norm_ (a' := ?_) ?_ ?_
      rotate_left
      ·show Act.put _ (some 8) _ = _
       simp only [Act.put, x1_, x2_, x3_, i64_w, i32_w]
       rfl
      refine one_ (i := 4) (N := some 13) #[true, true, true, true, true, true, true, true, true, false, false, true, false] rfl rfl (one_of HT_.out (by kernel_rfl)) (by decide) (fun K hK => ?_)
      refine goes_ Try.func71 (by kernel_rfl) rfl #[.int .i64 a1_0, .int .i64 a2_0] (by rfl) rfl rfl (by (try simp only [List.map_toArray, List.map_cons, List.map_nil]); first | done | rfl) ?_
      with_reducible refine (spec_l3Max.calls a1_0 a2_0 t123 _ A4.out).mono ?_
      rintro e w' ⟨rfl, ⟨nd, rfl⟩⟩
      refine ⟨_, rfl, ?_⟩
      refine hK.out _ _ ⟨bc_ BK120.out 0, bc_ BK120.out 1, bc_ BK121.out 0, bc_ BK121.out 1⟩ (fun hHeld => ?_)
      clear hK K
      refine norm_ (a' := ?_) ?_ ?_
      rotate_left
      ·show Act.put _ (some 13) _ = _
       simp only [Act.put, x1_, x2_, x3_, i64_w, i32_w]
       rfl
      refine one_ (i := 9) (N := some 18) #[true, true, true, true, true, true, true, true, true, true, false, true, false] rfl rfl (one_of HT_.out (by kernel_rfl)) (by decide) (fun K hK => ?_)
      refine goes_ Try.func72 (by kernel_rfl) rfl #[.int .i64 a1_1, .int .i64 a2_1] (by rfl) rfl rfl (by (try simp only [List.map_toArray, List.map_cons, List.map_nil]); first | done | rfl) ?_
      with_reducible refine (spec_l3Min.calls a1_1 a2_1 t124 _ A5.out).mono ?_
      rintro e w' ⟨rfl, ⟨nd, rfl⟩⟩
      refine ⟨_, rfl, ?_⟩
      refine hK.out _ _ ⟨bc_ BK120.out 0, bc_ BK120.out 1, bc_ BK121.out 0, bc_ BK121.out 1⟩ (fun hHeld => ?_)
      clear hK K
      refine norm_ (a' := ?_) ?_ ?_
      rotate_left
      ·show Act.put _ (some 18) _ = _
       simp only [Act.put, x1_, x2_, x3_, i64_w, i32_w]
       rfl
      refine pure_ (i := 10) (N := some 19) (v := ?_) (a' := ?_) #[true, true, true, true, true, true, true, true, true, true, true, true, false] rfl rfl (any_of HT_.out (by kernel_rfl)) (fun _ _ _ h => h) (Or.inl ⟨by rfl, ?_⟩) ?_ ?_
      rotate_left
      ·intro w'
       go_simp
       with_reducible rfl
      rotate_left
      ·simp only [Act.put, x1_, x2_, x3_, i64_w, i32_w]
       rfl
      exact norm_ (by simp only [putAll, Act.put, List.setIfInBounds_toArray, List.set_cons_zero, List.set_cons_succ]) (hCont (gb125) _ ⟨hHeld, (bz_ BK120.out), (bz_ BK121.out), (bz_ BK122.out), (bz_ BK125.out), GW125.out, GE125.out, NB120_125.out, NB125_120.out, NB121_125.out, NB125_121.out, NB122_125.out, NB125_122.out, (by repeat (first | (with_reducible first | exact HB.out | apply b1_ | apply b2_ | apply b3_ | apply c_ GE120 | apply c_ GE121 | apply c_ GE122 | apply c_ GE125) | exact HB.out))⟩)
    rintro gb125 w36 ⟨hS_, h0_, h1_, h2_, h3_, h4_, h5_, h6_, h7_, h8_, h9_, h10_, h11_, h12_⟩
    have n0_ : Aside0 (w36.heap[gb120]? = some (.cells #[.int .i64 a1_0, .int .i64 a1_1] 64 (0, 0))) := ⟨h0_⟩
    have n1_ : Aside0 (w36.heap[gb121]? = some (.cells #[.int .i64 a2_0, .int .i64 a2_1] 64 (0, 0))) := ⟨h1_⟩
    have n2_ : Aside0 (w36.heap[gb122]? = some (.cells #[.int .i64 0, .int .i64 0] 64 (0, 0))) := ⟨h2_⟩
    have n3_ : Aside0 (w36.heap[gb125]? = some (.cells #[.int .i64 0, .int .i64 0] 64 (0, 0))) := ⟨h3_⟩
    have GW125 : Aside0 (w.heap.size ≤ gb125) := ⟨h4_⟩
    have GE125 : Aside0 (w.heap.size ≤ gb125) := ⟨h5_⟩
    have NB120_125 := A_ h6_
    have NB125_120 := A_ h7_
    have NB121_125 := A_ h8_
    have NB125_121 := A_ h9_
    have NB122_125 := A_ h10_
    have NB125_122 := A_ h11_
    have n12_ : Aside0 (Below w.heap.size w w36) := ⟨h12_⟩
    clear BK120 BK121
    clear BK122 HB
    clear h0_ h1_ h2_ h3_ h4_ h5_ h6_ h7_ h8_ h9_ h10_ h11_ h12_
    have BK120 := n0_
    have BK121 := n1_
    have BK122 := n2_
    have BK125 := n3_
    have HB := n12_
    clear n0_ n1_ n2_ n3_ n12_
    have hHeld : w36.cell? ⟨gb120, 0, none⟩ = some (.int .i64 a1_0) ∧ w36.cell? ⟨gb120, 1, none⟩ = some (.int .i64 a1_1) ∧ w36.cell? ⟨gb121, 0, none⟩ = some (.int .i64 a2_0) ∧ w36.cell? ⟨gb121, 1, none⟩ = some (.int .i64 a2_1) := hS_
    refine norm_ (a' := ?_) ?_ ?_
    rotate_left
    ·simp only [putAll, Act.put, List.setIfInBounds_toArray, List.set_cons_zero, List.set_cons_succ]
     rfl
    refine one_ (i := 12) (N := none) #[true, true, true, true, true, true, true, true, true, true, true, true, true] rfl rfl (one_of HT_.out (by kernel_rfl)) (by decide) (fun K hK => ?_)
    have hs37 : w36.cell? ⟨gb125, 0, none⟩ = some (.int .i64 0) := bc_ BK125.out 0
    have hfs37 := blk_frozen BK125.out 0
    have hns37_0 := NB120_125.out
    have hns37_1 := NB121_125.out
    have hns37_2 := NB122_125.out
    have hms37_0 := NB125_120.out
    have hms37_1 := NB125_121.out
    have hms37_2 := NB125_122.out
    have hs38 : w36.cell? ⟨gb125, 1, none⟩ = some (.int .i64 0) := bc_ BK125.out 1
    have hfs38 := blk_frozen BK125.out 1
    have hns38_0 := NB120_125.out
    have hns38_1 := NB121_125.out
    have hns38_2 := NB122_125.out
    have hms38_0 := NB125_120.out
    have hms38_1 := NB125_121.out
    have hms38_2 := NB125_122.out
    refine skip_ (w1 := ?_) (by rfl) rfl ?_ ?_
    rotate_left
    ·go_simp
     rfl
    refine hK.out _ _ ⟨((cell_far (p := ⟨gb125, _, none⟩) NB120_125.out _).trans (((cell_far (p := ⟨gb125, _, none⟩) NB120_125.out _).trans (hHeld.1)))), ((cell_far (p := ⟨gb125, _, none⟩) NB120_125.out _).trans (((cell_far (p := ⟨gb125, _, none⟩) NB120_125.out _).trans (hHeld.2.1)))), ((cell_far (p := ⟨gb125, _, none⟩) NB121_125.out _).trans (((cell_far (p := ⟨gb125, _, none⟩) NB121_125.out _).trans (hHeld.2.2.1)))), ((cell_far (p := ⟨gb125, _, none⟩) NB121_125.out _).trans (((cell_far (p := ⟨gb125, _, none⟩) NB121_125.out _).trans (hHeld.2.2.2))))⟩ (fun hHeld => ?_)
    clear hK K
    refine done_ (done_of HT_.out (by kernel_rfl)) ?_
    have hnb39 := NB120_121.out
    have hnc39 := NB121_120.out
    have hnb40 := NB120_122.out
    have hnc40 := NB122_120.out
    have hnb41 := NB120_125.out
    have hnc41 := NB125_120.out
    have hcz42_0 : w36.cell? ⟨gb120, 0, none⟩ = some (.int .i64 a1_0) := bc_ BK120.out 0
    have hcz42_1 : w36.cell? ⟨gb120, 1, none⟩ = some (.int .i64 a1_1) := bc_ BK120.out 1
    have hfz42_0 := blk_frozen BK120.out 0
    have hfz42_1 := blk_frozen BK120.out 1
    try go_wp2_with (first | ((with_reducible refine gate_callee (f := 49) rfl ?_); refine goesL_ (some 22) rfl rfl Try.func49 (by kernel_rfl) rfl #[.int .i64 a0, .agg #[.int .i64 a1_0, .int .i64 a1_1]] rfl (by (try simp only [List.map_toArray, List.map_cons, List.map_nil]); first | done | rfl) ?_; (with_reducible refine (spec_PairOk.calls a0 a1_0 a1_1 true _ A6.out).mono ?_); rintro e w43 ⟨rfl, hb⟩; refine ⟨_, rfl, ?_⟩; have n0_ := A_ (blk_below (g := gb120) (o := .cells #[.int .i64 a1_0, .int .i64 a1_1] 64 (0, 0)) (by (with_reducible repeat (first | apply bn_ | apply bd_ | apply ba_)); refine blk_far ?_ NB120_125.out _; (with_reducible repeat (first | apply bn_ | apply bd_ | apply ba_)); refine blk_far ?_ NB120_125.out _; (with_reducible repeat (first | apply bn_ | apply bd_ | apply ba_)); exact BK120.out) hb); have n1_ := A_ (blk_below (g := gb121) (o := .cells #[.int .i64 a2_0, .int .i64 a2_1] 64 (0, 0)) (by (with_reducible repeat (first | apply bn_ | apply bd_ | apply ba_)); refine blk_far ?_ NB121_125.out _; (with_reducible repeat (first | apply bn_ | apply bd_ | apply ba_)); refine blk_far ?_ NB121_125.out _; (with_reducible repeat (first | apply bn_ | apply bd_ | apply ba_)); exact BK121.out) hb); have n2_ := A_ (blk_below (g := gb122) (o := .cells #[.int .i64 0, .int .i64 0] 64 (0, 0)) (by (with_reducible repeat (first | apply bn_ | apply bd_ | apply ba_)); refine blk_far ?_ NB122_125.out _; (with_reducible repeat (first | apply bn_ | apply bd_ | apply ba_)); refine blk_far ?_ NB122_125.out _; (with_reducible repeat (first | apply bn_ | apply bd_ | apply ba_)); exact BK122.out) hb); have n3_ := A_ (blk_below (g := gb125) (o := .cells #[.int .i64 t123, .int .i64 t124] 64 (0, 0)) (by (with_reducible repeat (first | apply bn_ | apply bd_ | apply ba_)); refine blk_put (cs := #[.int .i64 t123, .int .i64 0]) ?_ 1 _ (by first | rfl | (simp [*]; done)); (with_reducible repeat (first | apply bn_ | apply bd_ | apply ba_)); refine blk_put (cs := #[.int .i64 0, .int .i64 0]) ?_ 0 _ (by first | rfl | (simp [*]; done)); (with_reducible repeat (first | apply bn_ | apply bd_ | apply ba_)); exact BK125.out) hb); have n4_ := A_ (below_step (by repeat (first | (with_reducible first | exact HB.out | apply b1_ | apply b2_ | apply b3_ | apply c_ GE120 | apply c_ GE121 | apply c_ GE122 | apply c_ GE125) | exact HB.out)) hb); clear BK120 BK121 BK122 BK125 HB; have BK120 := n0_; have BK121 := n1_; have BK122 := n2_; have BK125 := n3_; have HB := n4_; clear n0_ n1_ n2_ n3_ n4_; (try clear hb); (try clear hb2); (try clear hk); (try clear hi); have hnb44 := NB121_122.out; have hnc44 := NB122_121.out; have hnb45 := NB121_125.out; have hnc45 := NB125_121.out; have hcz46_0 : w43.cell? ⟨gb121, 0, none⟩ = some (.int .i64 a2_0) := bc_ BK121.out 0; have hcz46_1 : w43.cell? ⟨gb121, 1, none⟩ = some (.int .i64 a2_1) := bc_ BK121.out 1; have hfz46_0 := blk_frozen BK121.out 0; have hfz46_1 := blk_frozen BK121.out 1) | (go_at_call 49; (with_reducible refine (spec_PairOk.calls a0 a2_0 a2_1 true _ A8.out).mono ?_); rintro e w47 ⟨rfl, hb⟩; have n0_ := A_ (blk_below (bz_ BK120.out) hb); have n1_ := A_ (blk_below (bz_ BK121.out) hb); have n2_ := A_ (blk_below (bz_ BK122.out) hb); have n3_ := A_ (blk_below (bz_ BK125.out) hb); have n4_ := A_ (below_step (by repeat (first | (with_reducible first | exact HB.out | apply b1_ | apply b2_ | apply b3_ | apply c_ GE120 | apply c_ GE121 | apply c_ GE122 | apply c_ GE125) | exact HB.out)) hb); clear BK120 BK121 BK122 BK125 HB; have BK120 := n0_; have BK121 := n1_; have BK122 := n2_; have BK125 := n3_; have HB := n4_; clear n0_ n1_ n2_ n3_ n4_; (try clear hb); (try clear hb2); (try clear hk); (try clear hi); have hnb48 := NB125_122.out; have hnc48 := NB122_125.out; have hcz49_0 : w47.cell? ⟨gb125, 0, none⟩ = some (.int .i64 t123) := bc_ BK125.out 0; have hcz49_1 : w47.cell? ⟨gb125, 1, none⟩ = some (.int .i64 t124) := bc_ BK125.out 1; have hfz49_0 := blk_frozen BK125.out 0; have hfz49_1 := blk_frozen BK125.out 1; have hcz50_0 : w47.cell? ⟨gb122, 0, none⟩ = some (.int .i64 0) := bc_ BK122.out 0; have hcz50_1 : w47.cell? ⟨gb122, 1, none⟩ = some (.int .i64 0) := bc_ BK122.out 1; have hfz50_0 := blk_frozen BK122.out 0; have hfz50_1 := blk_frozen BK122.out 1))
    refine bodyPost_ret (results_ct rfl _ _ gb122 64 #[.int .i64 t123, .int .i64 t124] (0, 0) _ rfl (by (with_reducible repeat (first | apply bn_ | apply bd_ | apply ba_)); refine blk_put (cs := #[.int .i64 t123, .int .i64 0]) ?_ 1 _ (by first | rfl | (simp [*]; done)); (with_reducible repeat (first | apply bn_ | apply bd_ | apply ba_)); refine blk_put (cs := #[.int .i64 0, .int .i64 0]) ?_ 0 _ (by first | rfl | (simp [*]; done)); (with_reducible repeat (first | apply bn_ | apply bd_ | apply ba_)); exact BK122.out) Try.underlying64 rfl (by kernel_rfl)) rfl ?_
    exact ⟨by first | rfl | (simp [errW_none, errW_some] <;> rfl) | (simp [*, errW_none, errW_some] <;> rfl), by repeat (first | (with_reducible first | exact HB.out | apply b1_ | apply b2_ | apply b3_ | apply c_ GE120 | apply c_ GE121 | apply c_ GE122 | apply c_ GE125) | exact HB.out)⟩
  ·replace c9 := Bool.eq_false_iff.mpr c9
   subst c9
   have H1 : (some (0, 0, false)) = some (r1, r2, r3) := by rw [if_neg (show ¬ (false = true) by decide)] at H; exact H
   clear H
   have H := H1
   clear H1
   simp only [Option.some.injEq, Prod.mk.injEq] at H
   obtain ⟨rfl, rfl, rfl⟩ := H
   go_enter Try.func56, Try.ntmps56
   try go_wp2_with (first | ((with_reducible refine gate_dst (N := 4) rfl ?_); refine box_event ?hg (N := 4) ?hd (cs := #[.int .i64 a1_0, .int .i64 a1_1]) (t := 64) ?hr ?_; (case hd => rfl); (case hg => rfl); (case hr => first | (go_simp; done) | (go_simp; rfl)); intro gb120 hg w51 hbox hb; have n0_ := A_ (below_step (by repeat (first | (with_reducible first | exact HB.out | apply b1_ | apply b2_ | apply b3_) | exact HB.out)) hb); have n1_ := A_ (hbox); have n2_ := A_ (ge_ hg); have n3_ := n2_; clear HB; have HB := n0_; have BK120 := n1_; have GW120 := n2_; have GE120 := n3_; clear n0_ n1_ n2_ n3_; clear hb hbox hg) | ((with_reducible refine gate_dst (N := 5) rfl ?_); refine box_event ?hg (N := 5) ?hd (cs := #[.int .i64 a2_0, .int .i64 a2_1]) (t := 64) ?hr ?_; (case hd => rfl); (case hg => rfl); (case hr => first | (go_simp; done) | (go_simp; rfl)); intro gb121 hg w52 hbox hb; have n0_ := A_ (blk_below (bz_ BK120.out) hb); have n1_ := A_ (below_step (by repeat (first | (with_reducible first | exact HB.out | apply b1_ | apply b2_ | apply b3_ | apply c_ GE120) | exact HB.out)) hb); have n2_ := A_ (hbox); have n3_ := A_ (ge_ hg); have n4_ := n3_; have n5_ := A_ (nl_ hg (bz_ BK120.out)); have n6_ := A_ (ng_ hg (bz_ BK120.out)); clear BK120 HB; have BK120 := n0_; have HB := n1_; have BK121 := n2_; have GW121 := n3_; have GE121 := n4_; have NB120_121 := n5_; have NB121_120 := n6_; clear n0_ n1_ n2_ n3_ n4_ n5_ n6_; clear hb hbox hg) | ((with_reducible refine gate_dst (N := 6) rfl ?_); refine box_event ?hg (N := 6) ?hd (cs := #[.int .i64 0, .int .i64 0]) (t := 64) ?hr ?_; (case hd => rfl); (case hg => rfl); (case hr => first | (go_simp; done) | (go_simp; rfl)); intro gb122 hg w53 hbox hb; have n0_ := A_ (blk_below (bz_ BK120.out) hb); have n1_ := A_ (blk_below (bz_ BK121.out) hb); have n2_ := A_ (below_step (by repeat (first | (with_reducible first | exact HB.out | apply b1_ | apply b2_ | apply b3_ | apply c_ GE120 | apply c_ GE121) | exact HB.out)) hb); have n3_ := A_ (hbox); have n4_ := A_ (ge_ hg); have n5_ := n4_; have n6_ := A_ (nl_ hg (bz_ BK120.out)); have n7_ := A_ (ng_ hg (bz_ BK120.out)); have n8_ := A_ (nl_ hg (bz_ BK121.out)); have n9_ := A_ (ng_ hg (bz_ BK121.out)); clear BK120 BK121 HB; have BK120 := n0_; have BK121 := n1_; have HB := n2_; have BK122 := n3_; have GW122 := n4_; have GE122 := n5_; have NB120_122 := n6_; have NB122_120 := n7_; have NB121_122 := n8_; have NB122_121 := n9_; clear n0_ n1_ n2_ n3_ n4_ n5_ n6_ n7_ n8_ n9_; clear hb hbox hg))
   have n0_ := A_ (blk_drew BK120.out)
   have n1_ := A_ (blk_drew BK121.out)
   have n2_ := A_ (blk_drew BK122.out)
   have n3_ := A_ (below_drew1 HB.out)
   clear BK120 BK121
   clear BK122 HB
   have BK120 := n0_
   have BK121 := n1_
   have BK122 := n2_
   have HB := n3_
   clear n0_ n1_ n2_ n3_
   refine start_ (n := 13) (S := fun w' => w'.cell? ⟨gb120, 0, none⟩ = some (.int .i64 a1_0) ∧ w'.cell? ⟨gb120, 1, none⟩ = some (.int .i64 a1_1) ∧ w'.cell? ⟨gb121, 0, none⟩ = some (.int .i64 a2_0) ∧ w'.cell? ⟨gb121, 1, none⟩ = some (.int .i64 a2_1)) (ds := []) #[false, false, false, false, false, false, false, false, false, false, false, false, false] (by kernel_rfl) rfl rfl ⟨bc_ BK120.out 0, bc_ BK120.out 1, bc_ BK121.out 0, bc_ BK121.out 1⟩ (fun hHeld => ?_); refine with_tabW spec_PairMeet.tab1 spec_PairMeet.bits1 (fun HT_ HW_ => ?_)
   generalize w53.drew = w54 at BK120 BK121 BK122 HB hHeld ⊢
   refine pure_ (i := 0) (N := some 9) (v := ?_) (a' := ?_) #[true, false, false, false, false, false, false, false, false, false, false, false, false] rfl rfl (any_of HT_.out (by kernel_rfl)) (fun _ _ _ h => h) (Or.inl ⟨by rfl, ?_⟩) ?_ ?_
   rotate_left
   ·intro w'
    go_simp
    with_reducible rfl
   rotate_left
   ·simp only [Act.put, x1_, x2_, x3_, i64_w, i32_w]
    rfl
   refine pure_ (i := 2) (N := some 11) (v := ?_) (a' := ?_) #[true, false, true, false, false, false, false, false, false, false, false, false, false] rfl rfl (any_of HT_.out (by kernel_rfl)) (fun _ _ _ h => h) (Or.inl ⟨by rfl, ?_⟩) ?_ ?_
   rotate_left
   ·intro w'
    go_simp
    with_reducible rfl
   rotate_left
   ·simp only [Act.put, x1_, x2_, x3_, i64_w, i32_w]
    rfl
   refine pure_ (i := 5) (N := some 14) (v := ?_) (a' := ?_) #[true, false, true, false, false, true, false, false, false, false, false, false, false] rfl rfl (any_of HT_.out (by kernel_rfl)) (fun _ _ _ h => h) (Or.inl ⟨by rfl, ?_⟩) ?_ ?_
   rotate_left
   ·intro w'
    go_simp
    with_reducible rfl
   rotate_left
   ·simp only [Act.put, x1_, x2_, x3_, i64_w, i32_w]
    rfl
   refine pure_ (i := 7) (N := some 16) (v := ?_) (a' := ?_) #[true, false, true, false, false, true, false, true, false, false, false, false, false] rfl rfl (any_of HT_.out (by kernel_rfl)) (fun _ _ _ h => h) (Or.inl ⟨by rfl, ?_⟩) ?_ ?_
   rotate_left
   ·intro w'
    go_simp
    with_reducible rfl
   rotate_left
   ·simp only [Act.put, x1_, x2_, x3_, i64_w, i32_w]
    rfl
   refine take_ (i := 1) (N := some 10) (v := ?_) (a' := ?_) #[true, true, true, false, false, true, false, true, false, false, false, false, false] rfl rfl (take_ofW HT_.out HW_.out (by kernel_rfl)) (fun _ _ _ h => h) (Or.inl ⟨by rfl, ?_⟩) hHeld ?_ ?_
   rotate_left
   ·rintro w' ⟨s0, s1, s2, s3⟩
    go_simp
    with_reducible rfl
   rotate_left
   ·simp only [Act.put, x1_, x2_, x3_, i64_w, i32_w]
    rfl
   refine take_ (i := 3) (N := some 12) (v := ?_) (a' := ?_) #[true, true, true, true, false, true, false, true, false, false, false, false, false] rfl rfl (take_ofW HT_.out HW_.out (by kernel_rfl)) (fun _ _ _ h => h) (Or.inl ⟨by rfl, ?_⟩) hHeld ?_ ?_
   rotate_left
   ·rintro w' ⟨s0, s1, s2, s3⟩
    go_simp
    with_reducible rfl
   rotate_left
   ·simp only [Act.put, x1_, x2_, x3_, i64_w, i32_w]
    rfl
   refine take_ (i := 6) (N := some 15) (v := ?_) (a' := ?_) #[true, true, true, true, false, true, true, true, false, false, false, false, false] rfl rfl (take_ofW HT_.out HW_.out (by kernel_rfl)) (fun _ _ _ h => h) (Or.inl ⟨by rfl, ?_⟩) hHeld ?_ ?_
   rotate_left
   ·rintro w' ⟨s0, s1, s2, s3⟩
    go_simp
    with_reducible rfl
   rotate_left
   ·simp only [Act.put, x1_, x2_, x3_, i64_w, i32_w]
    rfl
   refine take_ (i := 8) (N := some 17) (v := ?_) (a' := ?_) #[true, true, true, true, false, true, true, true, true, false, false, false, false] rfl rfl (take_ofW HT_.out HW_.out (by kernel_rfl)) (fun _ _ _ h => h) (Or.inl ⟨by rfl, ?_⟩) hHeld ?_ ?_
   rotate_left
   ·rintro w' ⟨s0, s1, s2, s3⟩
    go_simp
    with_reducible rfl
   rotate_left
   ·simp only [Act.put, x1_, x2_, x3_, i64_w, i32_w]
    rfl
   refine join_ (σ := Nat) 1 #[true, true, true, true, true, true, true, true, true, true, true, true, false] (fun s_ => [(13, .int .i64 t123), (18, .int .i64 t124), (8, .pointer (some ⟨s_, 0, none⟩)), (19, .agg #[.int .i64 t123, .int .i64 t124])]) (fun s_ w' => (w'.cell? ⟨gb120, 0, none⟩ = some (.int .i64 a1_0) ∧ w'.cell? ⟨gb120, 1, none⟩ = some (.int .i64 a1_1) ∧ w'.cell? ⟨gb121, 0, none⟩ = some (.int .i64 a2_0) ∧ w'.cell? ⟨gb121, 1, none⟩ = some (.int .i64 a2_1)) ∧ (w'.heap[gb120]? = some (.cells #[.int .i64 a1_0, .int .i64 a1_1] 64 (0, 0))) ∧ (w'.heap[gb121]? = some (.cells #[.int .i64 a2_0, .int .i64 a2_1] 64 (0, 0))) ∧ (w'.heap[gb122]? = some (.cells #[.int .i64 0, .int .i64 0] 64 (0, 0))) ∧ (w'.heap[s_]? = some (.cells #[.int .i64 0, .int .i64 0] 64 (0, 0))) ∧ (w.heap.size ≤ s_) ∧ (w.heap.size ≤ s_) ∧ (gb120 ≠ s_) ∧ (s_ ≠ gb120) ∧ (gb121 ≠ s_) ∧ (s_ ≠ gb121) ∧ (gb122 ≠ s_) ∧ (s_ ≠ gb122) ∧ (Below w.heap.size w w')) ?_ ?_
   rotate_left
   ·intro hCont
    refine two_ (i := 4) (j := 11) (Ni := some 13) (Nj := some 8) #[true, true, true, true, true, true, true, true, true, false, false, false, false] #[true, true, true, true, false, true, true, true, true, false, false, true, false] rfl rfl rfl rfl (two_of HT_.out (by kernel_rfl)) (by decide) (by decide) (fun K hK => ?_) (fun K hK => ?_)
    ·skip
     refine goes_ Try.func71 (by kernel_rfl) rfl #[.int .i64 a1_0, .int .i64 a2_0] (by rfl) rfl rfl (by (try simp only [List.map_toArray, List.map_cons, List.map_nil]); first | done | rfl) ?_
     with_reducible refine (spec_l3Max.calls a1_0 a2_0 t123 _ A4.out).mono ?_
     rintro e w' ⟨rfl, ⟨nd, rfl⟩⟩
     refine ⟨_, rfl, ?_⟩
     refine hK.out _ _ ⟨bc_ BK120.out 0, bc_ BK120.out 1, bc_ BK121.out 0, bc_ BK121.out 1⟩ (fun hHeld => ?_)
     clear hK K
     refine norm_ (a' := ?_) ?_ ?_
     rotate_left
     ·show Act.put _ (some 13) _ = _
      simp only [Act.put, x1_, x2_, x3_, i64_w, i32_w]
      rfl
     refine two_ (i := 9) (j := 11) (Ni := some 18) (Nj := some 8) #[true, true, true, true, true, true, true, true, true, true, false, false, false] #[true, true, true, true, true, true, true, true, true, false, false, true, false] rfl rfl rfl rfl (two_of HT_.out (by kernel_rfl)) (by decide) (by decide) (fun K hK => ?_) (fun K hK => ?_)
     ·skip
      refine goes_ Try.func72 (by kernel_rfl) rfl #[.int .i64 a1_1, .int .i64 a2_1] (by rfl) rfl rfl (by (try simp only [List.map_toArray, List.map_cons, List.map_nil]); first | done | rfl) ?_
      with_reducible refine (spec_l3Min.calls a1_1 a2_1 t124 _ A5.out).mono ?_
      rintro e w' ⟨rfl, ⟨nd, rfl⟩⟩
      refine ⟨_, rfl, ?_⟩
      refine hK.out _ _ ⟨bc_ BK120.out 0, bc_ BK120.out 1, bc_ BK121.out 0, bc_ BK121.out 1⟩ (fun hHeld => ?_)
      clear hK K
      refine norm_ (a' := ?_) ?_ ?_
      rotate_left
      ·show Act.put _ (some 18) _ = _
       simp only [Act.put, x1_, x2_, x3_, i64_w, i32_w]
       rfl
      refine pure_ (i := 10) (N := some 19) (v := ?_) (a' := ?_) #[true, true, true, true, true, true, true, true, true, true, true, false, false] rfl rfl (any_of HT_.out (by kernel_rfl)) (fun _ _ _ h => h) (Or.inl ⟨by rfl, ?_⟩) ?_ ?_
      rotate_left
      ·intro w'
       go_simp
       with_reducible rfl
      rotate_left
      ·simp only [Act.put, x1_, x2_, x3_, i64_w, i32_w]
       rfl
      refine one_ (i := 11) (N := some 8) #[true, true, true, true, true, true, true, true, true, true, true, true, false] rfl rfl (one_of HT_.out (by kernel_rfl)) (by decide) (fun K hK => ?_)
      refine box_step ?hg (N := 8) ?hd (cs := #[.int .i64 0, .int .i64 0]) (t := 64) ?hr ?_; (case hd => rfl); (case hg => rfl); (case hr => first | (go_simp; done) | (go_simp; rfl))
      intro gb125 hg w55 hbox hb
      have n0_ := A_ (blk_below (bz_ BK120.out) hb)
      have n1_ := A_ (blk_below (bz_ BK121.out) hb)
      have n2_ := A_ (blk_below (bz_ BK122.out) hb)
      have n3_ := A_ (below_step (by repeat (first | (with_reducible first | exact HB.out | apply b1_ | apply b2_ | apply b3_ | apply c_ GE120 | apply c_ GE121 | apply c_ GE122) | exact HB.out)) hb)
      have n4_ := A_ (hbox)
      have n5_ := A_ (ge_ hg)
      have GE125 := n5_
      have NB120_125 := A_ (nl_ hg (bz_ BK120.out))
      have NB125_120 := A_ (ng_ hg (bz_ BK120.out))
      have NB121_125 := A_ (nl_ hg (bz_ BK121.out))
      have NB125_121 := A_ (ng_ hg (bz_ BK121.out))
      have NB122_125 := A_ (nl_ hg (bz_ BK122.out))
      have NB125_122 := A_ (ng_ hg (bz_ BK122.out))
      clear BK120 BK121
      clear BK122 HB
      have BK120 := n0_
      have BK121 := n1_
      have BK122 := n2_
      have HB := n3_
      have BK125 := n4_
      have GW125 := n5_
      clear n0_ n1_ n2_ n3_ n4_ n5_
      clear hb hbox hg
      refine hK.out _ _ ⟨bc_ BK120.out 0, bc_ BK120.out 1, bc_ BK121.out 0, bc_ BK121.out 1⟩ (fun hHeld => ?_)
      clear hK K
      refine norm_ (a' := ?_) ?_ ?_
      rotate_left
      ·show Act.put _ (some 8) _ = _
       simp only [Act.put, x1_, x2_, x3_, i64_w, i32_w]
       rfl
      exact norm_ (by simp only [putAll, Act.put, List.setIfInBounds_toArray, List.set_cons_zero, List.set_cons_succ]) (hCont (gb125) _ ⟨hHeld, (bz_ BK120.out), (bz_ BK121.out), (bz_ BK122.out), (bz_ BK125.out), GW125.out, GE125.out, NB120_125.out, NB125_120.out, NB121_125.out, NB125_121.out, NB122_125.out, NB125_122.out, (by repeat (first | (with_reducible first | exact HB.out | apply b1_ | apply b2_ | apply b3_ | apply c_ GE120 | apply c_ GE121 | apply c_ GE122 | apply c_ GE125) | exact HB.out))⟩)
     ·skip
      refine box_step ?hg (N := 8) ?hd (cs := #[.int .i64 0, .int .i64 0]) (t := 64) ?hr ?_; (case hd => rfl); (case hg => rfl); (case hr => first | (go_simp; done) | (go_simp; rfl))
      intro gb125 hg w55 hbox hb
      have n0_ := A_ (blk_below (bz_ BK120.out) hb)
      have n1_ := A_ (blk_below (bz_ BK121.out) hb)
      have n2_ := A_ (blk_below (bz_ BK122.out) hb)
      have n3_ := A_ (below_step (by repeat (first | (with_reducible first | exact HB.out | apply b1_ | apply b2_ | apply b3_ | apply c_ GE120 | apply c_ GE121 | apply c_ GE122) | exact HB.out)) hb)
      have n4_ := A_ (hbox)
      have n5_ := A_ (ge_ hg)
      have GE125 := n5_
      have NB120_125 := A_ (nl_ hg (bz_ BK120.out))
      have NB125_120 := A_ (ng_ hg (bz_ BK120.out))
      have NB121_125 := A_ (nl_ hg (bz_ BK121.out))
      have NB125_121 := A_ (ng_ hg (bz_ BK121.out))
      have NB122_125 := A_ (nl_ hg (bz_ BK122.out))
      have NB125_122 := A_ (ng_ hg (bz_ BK122.out))
      clear BK120 BK121
      clear BK122 HB
      have BK120 := n0_
      have BK121 := n1_
      have BK122 := n2_
      have HB := n3_
      have BK125 := n4_
      have GW125 := n5_
      clear n0_ n1_ n2_ n3_ n4_ n5_
      clear hb hbox hg
      refine hK.out _ _ ⟨bc_ BK120.out 0, bc_ BK120.out 1, bc_ BK121.out 0, bc_ BK121.out 1⟩ (fun hHeld => ?_)
      clear hK K
      refine norm_ (a' := ?_) ?_ ?_
      rotate_left
      ·show Act.put _ (some 8) _ = _
       simp only [Act.put, x1_, x2_, x3_, i64_w, i32_w]
       rfl
      refine one_ (i := 9) (N := some 18) #[true, true, true, true, true, true, true, true, true, true, false, true, false] rfl rfl (one_of HT_.out (by kernel_rfl)) (by decide) (fun K hK => ?_)
      refine goes_ Try.func72 (by kernel_rfl) rfl #[.int .i64 a1_1, .int .i64 a2_1] (by rfl) rfl rfl (by (try simp only [List.map_toArray, List.map_cons, List.map_nil]); first | done | rfl) ?_
      with_reducible refine (spec_l3Min.calls a1_1 a2_1 t124 _ A5.out).mono ?_
      rintro e w' ⟨rfl, ⟨nd, rfl⟩⟩
      refine ⟨_, rfl, ?_⟩
      refine hK.out _ _ ⟨bc_ BK120.out 0, bc_ BK120.out 1, bc_ BK121.out 0, bc_ BK121.out 1⟩ (fun hHeld => ?_)
      clear hK K
      refine norm_ (a' := ?_) ?_ ?_
      rotate_left
      ·show Act.put _ (some 18) _ = _
       simp only [Act.put, x1_, x2_, x3_, i64_w, i32_w]
       rfl
      refine pure_ (i := 10) (N := some 19) (v := ?_) (a' := ?_) #[true, true, true, true, true, true, true, true, true, true, true, true, false] rfl rfl (any_of HT_.out (by kernel_rfl)) (fun _ _ _ h => h) (Or.inl ⟨by rfl, ?_⟩) ?_ ?_
      rotate_left
      ·intro w'
       go_simp
       with_reducible rfl
      rotate_left
      ·simp only [Act.put, x1_, x2_, x3_, i64_w, i32_w]
       rfl
      exact norm_ (by simp only [putAll, Act.put, List.setIfInBounds_toArray, List.set_cons_zero, List.set_cons_succ]) (hCont (gb125) _ ⟨hHeld, (bz_ BK120.out), (bz_ BK121.out), (bz_ BK122.out), (bz_ BK125.out), GW125.out, GE125.out, NB120_125.out, NB125_120.out, NB121_125.out, NB125_121.out, NB122_125.out, NB125_122.out, (by repeat (first | (with_reducible first | exact HB.out | apply b1_ | apply b2_ | apply b3_ | apply c_ GE120 | apply c_ GE121 | apply c_ GE122 | apply c_ GE125) | exact HB.out))⟩)
    ·skip
     refine box_step ?hg (N := 8) ?hd (cs := #[.int .i64 0, .int .i64 0]) (t := 64) ?hr ?_; (case hd => rfl); (case hg => rfl); (case hr => first | (go_simp; done) | (go_simp; rfl))
     intro gb125 hg w55 hbox hb
     have n0_ := A_ (blk_below (bz_ BK120.out) hb)
     have n1_ := A_ (blk_below (bz_ BK121.out) hb)
     have n2_ := A_ (blk_below (bz_ BK122.out) hb)
     have n3_ := A_ (below_step (by repeat (first | (with_reducible first | exact HB.out | apply b1_ | apply b2_ | apply b3_ | apply c_ GE120 | apply c_ GE121 | apply c_ GE122) | exact HB.out)) hb)
     have n4_ := A_ (hbox)
     have n5_ := A_ (ge_ hg)
     have GE125 := n5_
     have NB120_125 := A_ (nl_ hg (bz_ BK120.out))
     have NB125_120 := A_ (ng_ hg (bz_ BK120.out))
     have NB121_125 := A_ (nl_ hg (bz_ BK121.out))
     have NB125_121 := A_ (ng_ hg (bz_ BK121.out))
     have NB122_125 := A_ (nl_ hg (bz_ BK122.out))
     have NB125_122 := A_ (ng_ hg (bz_ BK122.out))
     clear BK120 BK121
     clear BK122 HB
     have BK120 := n0_
     have BK121 := n1_
     have BK122 := n2_
     have HB := n3_
     have BK125 := n4_
     have GW125 := n5_
     clear n0_ n1_ n2_ n3_ n4_ n5_
     clear hb hbox hg
     refine hK.out _ _ ⟨bc_ BK120.out 0, bc_ BK120.out 1, bc_ BK121.out 0, bc_ BK121.out 1⟩ (fun hHeld => ?_)
     clear hK K
     refine norm_ (a' := ?_) ?_ ?_
     rotate_left
     ·show Act.put _ (some 8) _ = _
      simp only [Act.put, x1_, x2_, x3_, i64_w, i32_w]
      rfl
     refine one_ (i := 4) (N := some 13) #[true, true, true, true, true, true, true, true, true, false, false, true, false] rfl rfl (one_of HT_.out (by kernel_rfl)) (by decide) (fun K hK => ?_)
     refine goes_ Try.func71 (by kernel_rfl) rfl #[.int .i64 a1_0, .int .i64 a2_0] (by rfl) rfl rfl (by (try simp only [List.map_toArray, List.map_cons, List.map_nil]); first | done | rfl) ?_
     with_reducible refine (spec_l3Max.calls a1_0 a2_0 t123 _ A4.out).mono ?_
     rintro e w' ⟨rfl, ⟨nd, rfl⟩⟩
     refine ⟨_, rfl, ?_⟩
     refine hK.out _ _ ⟨bc_ BK120.out 0, bc_ BK120.out 1, bc_ BK121.out 0, bc_ BK121.out 1⟩ (fun hHeld => ?_)
     clear hK K
     refine norm_ (a' := ?_) ?_ ?_
     rotate_left
     ·show Act.put _ (some 13) _ = _
      simp only [Act.put, x1_, x2_, x3_, i64_w, i32_w]
      rfl
     refine one_ (i := 9) (N := some 18) #[true, true, true, true, true, true, true, true, true, true, false, true, false] rfl rfl (one_of HT_.out (by kernel_rfl)) (by decide) (fun K hK => ?_)
     refine goes_ Try.func72 (by kernel_rfl) rfl #[.int .i64 a1_1, .int .i64 a2_1] (by rfl) rfl rfl (by (try simp only [List.map_toArray, List.map_cons, List.map_nil]); first | done | rfl) ?_
     with_reducible refine (spec_l3Min.calls a1_1 a2_1 t124 _ A5.out).mono ?_
     rintro e w' ⟨rfl, ⟨nd, rfl⟩⟩
     refine ⟨_, rfl, ?_⟩
     refine hK.out _ _ ⟨bc_ BK120.out 0, bc_ BK120.out 1, bc_ BK121.out 0, bc_ BK121.out 1⟩ (fun hHeld => ?_)
     clear hK K
     refine norm_ (a' := ?_) ?_ ?_
     rotate_left
     ·show Act.put _ (some 18) _ = _
      simp only [Act.put, x1_, x2_, x3_, i64_w, i32_w]
      rfl
     refine pure_ (i := 10) (N := some 19) (v := ?_) (a' := ?_) #[true, true, true, true, true, true, true, true, true, true, true, true, false] rfl rfl (any_of HT_.out (by kernel_rfl)) (fun _ _ _ h => h) (Or.inl ⟨by rfl, ?_⟩) ?_ ?_
     rotate_left
     ·intro w'
      go_simp
      with_reducible rfl
     rotate_left
     ·simp only [Act.put, x1_, x2_, x3_, i64_w, i32_w]
      rfl
     exact norm_ (by simp only [putAll, Act.put, List.setIfInBounds_toArray, List.set_cons_zero, List.set_cons_succ]) (hCont (gb125) _ ⟨hHeld, (bz_ BK120.out), (bz_ BK121.out), (bz_ BK122.out), (bz_ BK125.out), GW125.out, GE125.out, NB120_125.out, NB125_120.out, NB121_125.out, NB125_121.out, NB122_125.out, NB125_122.out, (by repeat (first | (with_reducible first | exact HB.out | apply b1_ | apply b2_ | apply b3_ | apply c_ GE120 | apply c_ GE121 | apply c_ GE122 | apply c_ GE125) | exact HB.out))⟩)
   rintro gb125 w56 ⟨hS_, h0_, h1_, h2_, h3_, h4_, h5_, h6_, h7_, h8_, h9_, h10_, h11_, h12_⟩
   have n0_ : Aside0 (w56.heap[gb120]? = some (.cells #[.int .i64 a1_0, .int .i64 a1_1] 64 (0, 0))) := ⟨h0_⟩
   have n1_ : Aside0 (w56.heap[gb121]? = some (.cells #[.int .i64 a2_0, .int .i64 a2_1] 64 (0, 0))) := ⟨h1_⟩
   have n2_ : Aside0 (w56.heap[gb122]? = some (.cells #[.int .i64 0, .int .i64 0] 64 (0, 0))) := ⟨h2_⟩
   have n3_ : Aside0 (w56.heap[gb125]? = some (.cells #[.int .i64 0, .int .i64 0] 64 (0, 0))) := ⟨h3_⟩
   have GW125 : Aside0 (w.heap.size ≤ gb125) := ⟨h4_⟩
   have GE125 : Aside0 (w.heap.size ≤ gb125) := ⟨h5_⟩
   have NB120_125 := A_ h6_
   have NB125_120 := A_ h7_
   have NB121_125 := A_ h8_
   have NB125_121 := A_ h9_
   have NB122_125 := A_ h10_
   have NB125_122 := A_ h11_
   have n12_ : Aside0 (Below w.heap.size w w56) := ⟨h12_⟩
   clear BK120 BK121
   clear BK122 HB
   clear h0_ h1_ h2_ h3_ h4_ h5_ h6_ h7_ h8_ h9_ h10_ h11_ h12_
   have BK120 := n0_
   have BK121 := n1_
   have BK122 := n2_
   have BK125 := n3_
   have HB := n12_
   clear n0_ n1_ n2_ n3_ n12_
   have hHeld : w56.cell? ⟨gb120, 0, none⟩ = some (.int .i64 a1_0) ∧ w56.cell? ⟨gb120, 1, none⟩ = some (.int .i64 a1_1) ∧ w56.cell? ⟨gb121, 0, none⟩ = some (.int .i64 a2_0) ∧ w56.cell? ⟨gb121, 1, none⟩ = some (.int .i64 a2_1) := hS_
   refine norm_ (a' := ?_) ?_ ?_
   rotate_left
   ·simp only [putAll, Act.put, List.setIfInBounds_toArray, List.set_cons_zero, List.set_cons_succ]
    rfl
   refine one_ (i := 12) (N := none) #[true, true, true, true, true, true, true, true, true, true, true, true, true] rfl rfl (one_of HT_.out (by kernel_rfl)) (by decide) (fun K hK => ?_)
   have hs57 : w56.cell? ⟨gb125, 0, none⟩ = some (.int .i64 0) := bc_ BK125.out 0
   have hfs57 := blk_frozen BK125.out 0
   have hns57_0 := NB120_125.out
   have hns57_1 := NB121_125.out
   have hns57_2 := NB122_125.out
   have hms57_0 := NB125_120.out
   have hms57_1 := NB125_121.out
   have hms57_2 := NB125_122.out
   have hs58 : w56.cell? ⟨gb125, 1, none⟩ = some (.int .i64 0) := bc_ BK125.out 1
   have hfs58 := blk_frozen BK125.out 1
   have hns58_0 := NB120_125.out
   have hns58_1 := NB121_125.out
   have hns58_2 := NB122_125.out
   have hms58_0 := NB125_120.out
   have hms58_1 := NB125_121.out
   have hms58_2 := NB125_122.out
   refine skip_ (w1 := ?_) (by rfl) rfl ?_ ?_
   rotate_left
   ·go_simp
    rfl
   refine hK.out _ _ ⟨((cell_far (p := ⟨gb125, _, none⟩) NB120_125.out _).trans (((cell_far (p := ⟨gb125, _, none⟩) NB120_125.out _).trans (hHeld.1)))), ((cell_far (p := ⟨gb125, _, none⟩) NB120_125.out _).trans (((cell_far (p := ⟨gb125, _, none⟩) NB120_125.out _).trans (hHeld.2.1)))), ((cell_far (p := ⟨gb125, _, none⟩) NB121_125.out _).trans (((cell_far (p := ⟨gb125, _, none⟩) NB121_125.out _).trans (hHeld.2.2.1)))), ((cell_far (p := ⟨gb125, _, none⟩) NB121_125.out _).trans (((cell_far (p := ⟨gb125, _, none⟩) NB121_125.out _).trans (hHeld.2.2.2))))⟩ (fun hHeld => ?_)
   clear hK K
   refine done_ (done_of HT_.out (by kernel_rfl)) ?_
   have hnb59 := NB120_121.out
   have hnc59 := NB121_120.out
   have hnb60 := NB120_122.out
   have hnc60 := NB122_120.out
   have hnb61 := NB120_125.out
   have hnc61 := NB125_120.out
   have hcz62_0 : w56.cell? ⟨gb120, 0, none⟩ = some (.int .i64 a1_0) := bc_ BK120.out 0
   have hcz62_1 : w56.cell? ⟨gb120, 1, none⟩ = some (.int .i64 a1_1) := bc_ BK120.out 1
   have hfz62_0 := blk_frozen BK120.out 0
   have hfz62_1 := blk_frozen BK120.out 1
   try go_wp2_with (first | ((with_reducible refine gate_callee (f := 49) rfl ?_); refine goesL_ (some 22) rfl rfl Try.func49 (by kernel_rfl) rfl #[.int .i64 a0, .agg #[.int .i64 a1_0, .int .i64 a1_1]] rfl (by (try simp only [List.map_toArray, List.map_cons, List.map_nil]); first | done | rfl) ?_; (with_reducible refine (spec_PairOk.calls a0 a1_0 a1_1 true _ A6.out).mono ?_); rintro e w63 ⟨rfl, hb⟩; refine ⟨_, rfl, ?_⟩; have n0_ := A_ (blk_below (g := gb120) (o := .cells #[.int .i64 a1_0, .int .i64 a1_1] 64 (0, 0)) (by (with_reducible repeat (first | apply bn_ | apply bd_ | apply ba_)); refine blk_far ?_ NB120_125.out _; (with_reducible repeat (first | apply bn_ | apply bd_ | apply ba_)); refine blk_far ?_ NB120_125.out _; (with_reducible repeat (first | apply bn_ | apply bd_ | apply ba_)); exact BK120.out) hb); have n1_ := A_ (blk_below (g := gb121) (o := .cells #[.int .i64 a2_0, .int .i64 a2_1] 64 (0, 0)) (by (with_reducible repeat (first | apply bn_ | apply bd_ | apply ba_)); refine blk_far ?_ NB121_125.out _; (with_reducible repeat (first | apply bn_ | apply bd_ | apply ba_)); refine blk_far ?_ NB121_125.out _; (with_reducible repeat (first | apply bn_ | apply bd_ | apply ba_)); exact BK121.out) hb); have n2_ := A_ (blk_below (g := gb122) (o := .cells #[.int .i64 0, .int .i64 0] 64 (0, 0)) (by (with_reducible repeat (first | apply bn_ | apply bd_ | apply ba_)); refine blk_far ?_ NB122_125.out _; (with_reducible repeat (first | apply bn_ | apply bd_ | apply ba_)); refine blk_far ?_ NB122_125.out _; (with_reducible repeat (first | apply bn_ | apply bd_ | apply ba_)); exact BK122.out) hb); have n3_ := A_ (blk_below (g := gb125) (o := .cells #[.int .i64 t123, .int .i64 t124] 64 (0, 0)) (by (with_reducible repeat (first | apply bn_ | apply bd_ | apply ba_)); refine blk_put (cs := #[.int .i64 t123, .int .i64 0]) ?_ 1 _ (by first | rfl | (simp [*]; done)); (with_reducible repeat (first | apply bn_ | apply bd_ | apply ba_)); refine blk_put (cs := #[.int .i64 0, .int .i64 0]) ?_ 0 _ (by first | rfl | (simp [*]; done)); (with_reducible repeat (first | apply bn_ | apply bd_ | apply ba_)); exact BK125.out) hb); have n4_ := A_ (below_step (by repeat (first | (with_reducible first | exact HB.out | apply b1_ | apply b2_ | apply b3_ | apply c_ GE120 | apply c_ GE121 | apply c_ GE122 | apply c_ GE125) | exact HB.out)) hb); clear BK120 BK121 BK122 BK125 HB; have BK120 := n0_; have BK121 := n1_; have BK122 := n2_; have BK125 := n3_; have HB := n4_; clear n0_ n1_ n2_ n3_ n4_; (try clear hb); (try clear hb2); (try clear hk); (try clear hi); have hnb64 := NB121_122.out; have hnc64 := NB122_121.out; have hnb65 := NB121_125.out; have hnc65 := NB125_121.out; have hcz66_0 : w63.cell? ⟨gb121, 0, none⟩ = some (.int .i64 a2_0) := bc_ BK121.out 0; have hcz66_1 : w63.cell? ⟨gb121, 1, none⟩ = some (.int .i64 a2_1) := bc_ BK121.out 1; have hfz66_0 := blk_frozen BK121.out 0; have hfz66_1 := blk_frozen BK121.out 1) | (go_at_call 49; (with_reducible refine (spec_PairOk.calls a0 a2_0 a2_1 false _ A8.out).mono ?_); rintro e w67 ⟨rfl, hb⟩; have n0_ := A_ (blk_below (bz_ BK120.out) hb); have n1_ := A_ (blk_below (bz_ BK121.out) hb); have n2_ := A_ (blk_below (bz_ BK122.out) hb); have n3_ := A_ (blk_below (bz_ BK125.out) hb); have n4_ := A_ (below_step (by repeat (first | (with_reducible first | exact HB.out | apply b1_ | apply b2_ | apply b3_ | apply c_ GE120 | apply c_ GE121 | apply c_ GE122 | apply c_ GE125) | exact HB.out)) hb); clear BK120 BK121 BK122 BK125 HB; have BK120 := n0_; have BK121 := n1_; have BK122 := n2_; have BK125 := n3_; have HB := n4_; clear n0_ n1_ n2_ n3_ n4_; (try clear hb); (try clear hb2); (try clear hk); (try clear hi); have hnb68 := NB122_125.out; have hnc68 := NB125_122.out; have hcz69_0 : w67.cell? ⟨gb122, 0, none⟩ = some (.int .i64 0) := bc_ BK122.out 0; have hcz69_1 : w67.cell? ⟨gb122, 1, none⟩ = some (.int .i64 0) := bc_ BK122.out 1; have hfz69_0 := blk_frozen BK122.out 0; have hfz69_1 := blk_frozen BK122.out 1))
   refine bodyPost_ret (results_ct rfl _ _ gb122 64 #[.int .i64 0, .int .i64 0] (0, 0) _ rfl (by (with_reducible repeat (first | apply bn_ | apply bd_ | apply ba_)); refine blk_put (cs := #[.int .i64 0, .int .i64 0]) ?_ 1 _ (by first | rfl | (simp [*]; done)); (with_reducible repeat (first | apply bn_ | apply bd_ | apply ba_)); refine blk_put (cs := #[.int .i64 0, .int .i64 0]) ?_ 0 _ (by first | rfl | (simp [*]; done)); (with_reducible repeat (first | apply bn_ | apply bd_ | apply ba_)); exact BK122.out) Try.underlying64 rfl (by kernel_rfl)) rfl ?_
   exact ⟨by first | rfl | (simp [errW_none, errW_some] <;> rfl) | (simp [*, errW_none, errW_some] <;> rfl), by repeat (first | (with_reducible first | exact HB.out | apply b1_ | apply b2_ | apply b3_ | apply c_ GE120 | apply c_ GE121 | apply c_ GE122 | apply c_ GE125) | exact HB.out)⟩
 ·replace c7 := Bool.eq_false_iff.mpr c7
  subst c7
  have H1 : (some (0, 0, false)) = some (r1, r2, r3) := by rw [if_neg (show ¬ (false = true) by decide)] at H; exact H
  clear H
  have H := H1
  clear H1
  simp only [Option.some.injEq, Prod.mk.injEq] at H
  obtain ⟨rfl, rfl, rfl⟩ := H
  go_enter Try.func56, Try.ntmps56
  try go_wp2_with (first | ((with_reducible refine gate_dst (N := 4) rfl ?_); refine box_event ?hg (N := 4) ?hd (cs := #[.int .i64 a1_0, .int .i64 a1_1]) (t := 64) ?hr ?_; (case hd => rfl); (case hg => rfl); (case hr => first | (go_simp; done) | (go_simp; rfl)); intro gb120 hg w70 hbox hb; have n0_ := A_ (below_step (by repeat (first | (with_reducible first | exact HB.out | apply b1_ | apply b2_ | apply b3_) | exact HB.out)) hb); have n1_ := A_ (hbox); have n2_ := A_ (ge_ hg); have n3_ := n2_; clear HB; have HB := n0_; have BK120 := n1_; have GW120 := n2_; have GE120 := n3_; clear n0_ n1_ n2_ n3_; clear hb hbox hg) | ((with_reducible refine gate_dst (N := 5) rfl ?_); refine box_event ?hg (N := 5) ?hd (cs := #[.int .i64 a2_0, .int .i64 a2_1]) (t := 64) ?hr ?_; (case hd => rfl); (case hg => rfl); (case hr => first | (go_simp; done) | (go_simp; rfl)); intro gb121 hg w71 hbox hb; have n0_ := A_ (blk_below (bz_ BK120.out) hb); have n1_ := A_ (below_step (by repeat (first | (with_reducible first | exact HB.out | apply b1_ | apply b2_ | apply b3_ | apply c_ GE120) | exact HB.out)) hb); have n2_ := A_ (hbox); have n3_ := A_ (ge_ hg); have n4_ := n3_; have n5_ := A_ (nl_ hg (bz_ BK120.out)); have n6_ := A_ (ng_ hg (bz_ BK120.out)); clear BK120 HB; have BK120 := n0_; have HB := n1_; have BK121 := n2_; have GW121 := n3_; have GE121 := n4_; have NB120_121 := n5_; have NB121_120 := n6_; clear n0_ n1_ n2_ n3_ n4_ n5_ n6_; clear hb hbox hg) | ((with_reducible refine gate_dst (N := 6) rfl ?_); refine box_event ?hg (N := 6) ?hd (cs := #[.int .i64 0, .int .i64 0]) (t := 64) ?hr ?_; (case hd => rfl); (case hg => rfl); (case hr => first | (go_simp; done) | (go_simp; rfl)); intro gb122 hg w72 hbox hb; have n0_ := A_ (blk_below (bz_ BK120.out) hb); have n1_ := A_ (blk_below (bz_ BK121.out) hb); have n2_ := A_ (below_step (by repeat (first | (with_reducible first | exact HB.out | apply b1_ | apply b2_ | apply b3_ | apply c_ GE120 | apply c_ GE121) | exact HB.out)) hb); have n3_ := A_ (hbox); have n4_ := A_ (ge_ hg); have n5_ := n4_; have n6_ := A_ (nl_ hg (bz_ BK120.out)); have n7_ := A_ (ng_ hg (bz_ BK120.out)); have n8_ := A_ (nl_ hg (bz_ BK121.out)); have n9_ := A_ (ng_ hg (bz_ BK121.out)); clear BK120 BK121 HB; have BK120 := n0_; have BK121 := n1_; have HB := n2_; have BK122 := n3_; have GW122 := n4_; have GE122 := n5_; have NB120_122 := n6_; have NB122_120 := n7_; have NB121_122 := n8_; have NB122_121 := n9_; clear n0_ n1_ n2_ n3_ n4_ n5_ n6_ n7_ n8_ n9_; clear hb hbox hg))
  have n0_ := A_ (blk_drew BK120.out)
  have n1_ := A_ (blk_drew BK121.out)
  have n2_ := A_ (blk_drew BK122.out)
  have n3_ := A_ (below_drew1 HB.out)
  clear BK120 BK121
  clear BK122 HB
  have BK120 := n0_
  have BK121 := n1_
  have BK122 := n2_
  have HB := n3_
  clear n0_ n1_ n2_ n3_
  refine start_ (n := 13) (S := fun w' => w'.cell? ⟨gb120, 0, none⟩ = some (.int .i64 a1_0) ∧ w'.cell? ⟨gb120, 1, none⟩ = some (.int .i64 a1_1) ∧ w'.cell? ⟨gb121, 0, none⟩ = some (.int .i64 a2_0) ∧ w'.cell? ⟨gb121, 1, none⟩ = some (.int .i64 a2_1)) (ds := []) #[false, false, false, false, false, false, false, false, false, false, false, false, false] (by kernel_rfl) rfl rfl ⟨bc_ BK120.out 0, bc_ BK120.out 1, bc_ BK121.out 0, bc_ BK121.out 1⟩ (fun hHeld => ?_); refine with_tabW spec_PairMeet.tab1 spec_PairMeet.bits1 (fun HT_ HW_ => ?_)
  generalize w72.drew = w73 at BK120 BK121 BK122 HB hHeld ⊢
  refine pure_ (i := 0) (N := some 9) (v := ?_) (a' := ?_) #[true, false, false, false, false, false, false, false, false, false, false, false, false] rfl rfl (any_of HT_.out (by kernel_rfl)) (fun _ _ _ h => h) (Or.inl ⟨by rfl, ?_⟩) ?_ ?_
  rotate_left
  ·intro w'
   go_simp
   with_reducible rfl
  rotate_left
  ·simp only [Act.put, x1_, x2_, x3_, i64_w, i32_w]
   rfl
  refine pure_ (i := 2) (N := some 11) (v := ?_) (a' := ?_) #[true, false, true, false, false, false, false, false, false, false, false, false, false] rfl rfl (any_of HT_.out (by kernel_rfl)) (fun _ _ _ h => h) (Or.inl ⟨by rfl, ?_⟩) ?_ ?_
  rotate_left
  ·intro w'
   go_simp
   with_reducible rfl
  rotate_left
  ·simp only [Act.put, x1_, x2_, x3_, i64_w, i32_w]
   rfl
  refine pure_ (i := 5) (N := some 14) (v := ?_) (a' := ?_) #[true, false, true, false, false, true, false, false, false, false, false, false, false] rfl rfl (any_of HT_.out (by kernel_rfl)) (fun _ _ _ h => h) (Or.inl ⟨by rfl, ?_⟩) ?_ ?_
  rotate_left
  ·intro w'
   go_simp
   with_reducible rfl
  rotate_left
  ·simp only [Act.put, x1_, x2_, x3_, i64_w, i32_w]
   rfl
  refine pure_ (i := 7) (N := some 16) (v := ?_) (a' := ?_) #[true, false, true, false, false, true, false, true, false, false, false, false, false] rfl rfl (any_of HT_.out (by kernel_rfl)) (fun _ _ _ h => h) (Or.inl ⟨by rfl, ?_⟩) ?_ ?_
  rotate_left
  ·intro w'
   go_simp
   with_reducible rfl
  rotate_left
  ·simp only [Act.put, x1_, x2_, x3_, i64_w, i32_w]
   rfl
  refine take_ (i := 1) (N := some 10) (v := ?_) (a' := ?_) #[true, true, true, false, false, true, false, true, false, false, false, false, false] rfl rfl (take_ofW HT_.out HW_.out (by kernel_rfl)) (fun _ _ _ h => h) (Or.inl ⟨by rfl, ?_⟩) hHeld ?_ ?_
  rotate_left
  ·rintro w' ⟨s0, s1, s2, s3⟩
   go_simp
   with_reducible rfl
  rotate_left
  ·simp only [Act.put, x1_, x2_, x3_, i64_w, i32_w]
   rfl
  refine take_ (i := 3) (N := some 12) (v := ?_) (a' := ?_) #[true, true, true, true, false, true, false, true, false, false, false, false, false] rfl rfl (take_ofW HT_.out HW_.out (by kernel_rfl)) (fun _ _ _ h => h) (Or.inl ⟨by rfl, ?_⟩) hHeld ?_ ?_
  rotate_left
  ·rintro w' ⟨s0, s1, s2, s3⟩
   go_simp
   with_reducible rfl
  rotate_left
  ·simp only [Act.put, x1_, x2_, x3_, i64_w, i32_w]
   rfl
  refine take_ (i := 6) (N := some 15) (v := ?_) (a' := ?_) #[true, true, true, true, false, true, true, true, false, false, false, false, false] rfl rfl (take_ofW HT_.out HW_.out (by kernel_rfl)) (fun _ _ _ h => h) (Or.inl ⟨by rfl, ?_⟩) hHeld ?_ ?_
  rotate_left
  ·rintro w' ⟨s0, s1, s2, s3⟩
   go_simp
   with_reducible rfl
  rotate_left
  ·simp only [Act.put, x1_, x2_, x3_, i64_w, i32_w]
   rfl
  refine take_ (i := 8) (N := some 17) (v := ?_) (a' := ?_) #[true, true, true, true, false, true, true, true, true, false, false, false, false] rfl rfl (take_ofW HT_.out HW_.out (by kernel_rfl)) (fun _ _ _ h => h) (Or.inl ⟨by rfl, ?_⟩) hHeld ?_ ?_
  rotate_left
  ·rintro w' ⟨s0, s1, s2, s3⟩
   go_simp
   with_reducible rfl
  rotate_left
  ·simp only [Act.put, x1_, x2_, x3_, i64_w, i32_w]
   rfl
  refine join_ (σ := Nat) 1 #[true, true, true, true, true, true, true, true, true, true, true, true, false] (fun s_ => [(13, .int .i64 t123), (18, .int .i64 t124), (8, .pointer (some ⟨s_, 0, none⟩)), (19, .agg #[.int .i64 t123, .int .i64 t124])]) (fun s_ w' => (w'.cell? ⟨gb120, 0, none⟩ = some (.int .i64 a1_0) ∧ w'.cell? ⟨gb120, 1, none⟩ = some (.int .i64 a1_1) ∧ w'.cell? ⟨gb121, 0, none⟩ = some (.int .i64 a2_0) ∧ w'.cell? ⟨gb121, 1, none⟩ = some (.int .i64 a2_1)) ∧ (w'.heap[gb120]? = some (.cells #[.int .i64 a1_0, .int .i64 a1_1] 64 (0, 0))) ∧ (w'.heap[gb121]? = some (.cells #[.int .i64 a2_0, .int .i64 a2_1] 64 (0, 0))) ∧ (w'.heap[gb122]? = some (.cells #[.int .i64 0, .int .i64 0] 64 (0, 0))) ∧ (w'.heap[s_]? = some (.cells #[.int .i64 0, .int .i64 0] 64 (0, 0))) ∧ (w.heap.size ≤ s_) ∧ (w.heap.size ≤ s_) ∧ (gb120 ≠ s_) ∧ (s_ ≠ gb120) ∧ (gb121 ≠ s_) ∧ (s_ ≠ gb121) ∧ (gb122 ≠ s_) ∧ (s_ ≠ gb122) ∧ (Below w.heap.size w w')) ?_ ?_
  rotate_left
  ·intro hCont
   refine two_ (i := 4) (j := 11) (Ni := some 13) (Nj := some 8) #[true, true, true, true, true, true, true, true, true, false, false, false, false] #[true, true, true, true, false, true, true, true, true, false, false, true, false] rfl rfl rfl rfl (two_of HT_.out (by kernel_rfl)) (by decide) (by decide) (fun K hK => ?_) (fun K hK => ?_)
   ·skip
    refine goes_ Try.func71 (by kernel_rfl) rfl #[.int .i64 a1_0, .int .i64 a2_0] (by rfl) rfl rfl (by (try simp only [List.map_toArray, List.map_cons, List.map_nil]); first | done | rfl) ?_
    with_reducible refine (spec_l3Max.calls a1_0 a2_0 t123 _ A4.out).mono ?_
    rintro e w' ⟨rfl, ⟨nd, rfl⟩⟩
    refine ⟨_, rfl, ?_⟩
    refine hK.out _ _ ⟨bc_ BK120.out 0, bc_ BK120.out 1, bc_ BK121.out 0, bc_ BK121.out 1⟩ (fun hHeld => ?_)
    clear hK K
    refine norm_ (a' := ?_) ?_ ?_
    rotate_left
    ·show Act.put _ (some 13) _ = _
     simp only [Act.put, x1_, x2_, x3_, i64_w, i32_w]
     rfl
    refine two_ (i := 9) (j := 11) (Ni := some 18) (Nj := some 8) #[true, true, true, true, true, true, true, true, true, true, false, false, false] #[true, true, true, true, true, true, true, true, true, false, false, true, false] rfl rfl rfl rfl (two_of HT_.out (by kernel_rfl)) (by decide) (by decide) (fun K hK => ?_) (fun K hK => ?_)
    ·skip
     refine goes_ Try.func72 (by kernel_rfl) rfl #[.int .i64 a1_1, .int .i64 a2_1] (by rfl) rfl rfl (by (try simp only [List.map_toArray, List.map_cons, List.map_nil]); first | done | rfl) ?_
     with_reducible refine (spec_l3Min.calls a1_1 a2_1 t124 _ A5.out).mono ?_
     rintro e w' ⟨rfl, ⟨nd, rfl⟩⟩
     refine ⟨_, rfl, ?_⟩
     refine hK.out _ _ ⟨bc_ BK120.out 0, bc_ BK120.out 1, bc_ BK121.out 0, bc_ BK121.out 1⟩ (fun hHeld => ?_)
     clear hK K
     refine norm_ (a' := ?_) ?_ ?_
     rotate_left
     ·show Act.put _ (some 18) _ = _
      simp only [Act.put, x1_, x2_, x3_, i64_w, i32_w]
      rfl
     refine pure_ (i := 10) (N := some 19) (v := ?_) (a' := ?_) #[true, true, true, true, true, true, true, true, true, true, true, false, false] rfl rfl (any_of HT_.out (by kernel_rfl)) (fun _ _ _ h => h) (Or.inl ⟨by rfl, ?_⟩) ?_ ?_
     rotate_left
     ·intro w'
      go_simp
      with_reducible rfl
     rotate_left
     ·simp only [Act.put, x1_, x2_, x3_, i64_w, i32_w]
      rfl
     refine one_ (i := 11) (N := some 8) #[true, true, true, true, true, true, true, true, true, true, true, true, false] rfl rfl (one_of HT_.out (by kernel_rfl)) (by decide) (fun K hK => ?_)
     refine box_step ?hg (N := 8) ?hd (cs := #[.int .i64 0, .int .i64 0]) (t := 64) ?hr ?_; (case hd => rfl); (case hg => rfl); (case hr => first | (go_simp; done) | (go_simp; rfl))
     intro gb125 hg w74 hbox hb
     have n0_ := A_ (blk_below (bz_ BK120.out) hb)
     have n1_ := A_ (blk_below (bz_ BK121.out) hb)
     have n2_ := A_ (blk_below (bz_ BK122.out) hb)
     have n3_ := A_ (below_step (by repeat (first | (with_reducible first | exact HB.out | apply b1_ | apply b2_ | apply b3_ | apply c_ GE120 | apply c_ GE121 | apply c_ GE122) | exact HB.out)) hb)
     have n4_ := A_ (hbox)
     have n5_ := A_ (ge_ hg)
     have GE125 := n5_
     have NB120_125 := A_ (nl_ hg (bz_ BK120.out))
     have NB125_120 := A_ (ng_ hg (bz_ BK120.out))
     have NB121_125 := A_ (nl_ hg (bz_ BK121.out))
     have NB125_121 := A_ (ng_ hg (bz_ BK121.out))
     have NB122_125 := A_ (nl_ hg (bz_ BK122.out))
     have NB125_122 := A_ (ng_ hg (bz_ BK122.out))
     clear BK120 BK121
     clear BK122 HB
     have BK120 := n0_
     have BK121 := n1_
     have BK122 := n2_
     have HB := n3_
     have BK125 := n4_
     have GW125 := n5_
     clear n0_ n1_ n2_ n3_ n4_ n5_
     clear hb hbox hg
     refine hK.out _ _ ⟨bc_ BK120.out 0, bc_ BK120.out 1, bc_ BK121.out 0, bc_ BK121.out 1⟩ (fun hHeld => ?_)
     clear hK K
     refine norm_ (a' := ?_) ?_ ?_
     rotate_left
     ·show Act.put _ (some 8) _ = _
      simp only [Act.put, x1_, x2_, x3_, i64_w, i32_w]
      rfl
     exact norm_ (by simp only [putAll, Act.put, List.setIfInBounds_toArray, List.set_cons_zero, List.set_cons_succ]) (hCont (gb125) _ ⟨hHeld, (bz_ BK120.out), (bz_ BK121.out), (bz_ BK122.out), (bz_ BK125.out), GW125.out, GE125.out, NB120_125.out, NB125_120.out, NB121_125.out, NB125_121.out, NB122_125.out, NB125_122.out, (by repeat (first | (with_reducible first | exact HB.out | apply b1_ | apply b2_ | apply b3_ | apply c_ GE120 | apply c_ GE121 | apply c_ GE122 | apply c_ GE125) | exact HB.out))⟩)
    ·skip
     refine box_step ?hg (N := 8) ?hd (cs := #[.int .i64 0, .int .i64 0]) (t := 64) ?hr ?_; (case hd => rfl); (case hg => rfl); (case hr => first | (go_simp; done) | (go_simp; rfl))
     intro gb125 hg w74 hbox hb
     have n0_ := A_ (blk_below (bz_ BK120.out) hb)
     have n1_ := A_ (blk_below (bz_ BK121.out) hb)
     have n2_ := A_ (blk_below (bz_ BK122.out) hb)
     have n3_ := A_ (below_step (by repeat (first | (with_reducible first | exact HB.out | apply b1_ | apply b2_ | apply b3_ | apply c_ GE120 | apply c_ GE121 | apply c_ GE122) | exact HB.out)) hb)
     have n4_ := A_ (hbox)
     have n5_ := A_ (ge_ hg)
     have GE125 := n5_
     have NB120_125 := A_ (nl_ hg (bz_ BK120.out))
     have NB125_120 := A_ (ng_ hg (bz_ BK120.out))
     have NB121_125 := A_ (nl_ hg (bz_ BK121.out))
     have NB125_121 := A_ (ng_ hg (bz_ BK121.out))
     have NB122_125 := A_ (nl_ hg (bz_ BK122.out))
     have NB125_122 := A_ (ng_ hg (bz_ BK122.out))
     clear BK120 BK121
     clear BK122 HB
     have BK120 := n0_
     have BK121 := n1_
     have BK122 := n2_
     have HB := n3_
     have BK125 := n4_
     have GW125 := n5_
     clear n0_ n1_ n2_ n3_ n4_ n5_
     clear hb hbox hg
     refine hK.out _ _ ⟨bc_ BK120.out 0, bc_ BK120.out 1, bc_ BK121.out 0, bc_ BK121.out 1⟩ (fun hHeld => ?_)
     clear hK K
     refine norm_ (a' := ?_) ?_ ?_
     rotate_left
     ·show Act.put _ (some 8) _ = _
      simp only [Act.put, x1_, x2_, x3_, i64_w, i32_w]
      rfl
     refine one_ (i := 9) (N := some 18) #[true, true, true, true, true, true, true, true, true, true, false, true, false] rfl rfl (one_of HT_.out (by kernel_rfl)) (by decide) (fun K hK => ?_)
     refine goes_ Try.func72 (by kernel_rfl) rfl #[.int .i64 a1_1, .int .i64 a2_1] (by rfl) rfl rfl (by (try simp only [List.map_toArray, List.map_cons, List.map_nil]); first | done | rfl) ?_
     with_reducible refine (spec_l3Min.calls a1_1 a2_1 t124 _ A5.out).mono ?_
     rintro e w' ⟨rfl, ⟨nd, rfl⟩⟩
     refine ⟨_, rfl, ?_⟩
     refine hK.out _ _ ⟨bc_ BK120.out 0, bc_ BK120.out 1, bc_ BK121.out 0, bc_ BK121.out 1⟩ (fun hHeld => ?_)
     clear hK K
     refine norm_ (a' := ?_) ?_ ?_
     rotate_left
     ·show Act.put _ (some 18) _ = _
      simp only [Act.put, x1_, x2_, x3_, i64_w, i32_w]
      rfl
     refine pure_ (i := 10) (N := some 19) (v := ?_) (a' := ?_) #[true, true, true, true, true, true, true, true, true, true, true, true, false] rfl rfl (any_of HT_.out (by kernel_rfl)) (fun _ _ _ h => h) (Or.inl ⟨by rfl, ?_⟩) ?_ ?_
     rotate_left
     ·intro w'
      go_simp
      with_reducible rfl
     rotate_left
     ·simp only [Act.put, x1_, x2_, x3_, i64_w, i32_w]
      rfl
     exact norm_ (by simp only [putAll, Act.put, List.setIfInBounds_toArray, List.set_cons_zero, List.set_cons_succ]) (hCont (gb125) _ ⟨hHeld, (bz_ BK120.out), (bz_ BK121.out), (bz_ BK122.out), (bz_ BK125.out), GW125.out, GE125.out, NB120_125.out, NB125_120.out, NB121_125.out, NB125_121.out, NB122_125.out, NB125_122.out, (by repeat (first | (with_reducible first | exact HB.out | apply b1_ | apply b2_ | apply b3_ | apply c_ GE120 | apply c_ GE121 | apply c_ GE122 | apply c_ GE125) | exact HB.out))⟩)
   ·skip
    refine box_step ?hg (N := 8) ?hd (cs := #[.int .i64 0, .int .i64 0]) (t := 64) ?hr ?_; (case hd => rfl); (case hg => rfl); (case hr => first | (go_simp; done) | (go_simp; rfl))
    intro gb125 hg w74 hbox hb
    have n0_ := A_ (blk_below (bz_ BK120.out) hb)
    have n1_ := A_ (blk_below (bz_ BK121.out) hb)
    have n2_ := A_ (blk_below (bz_ BK122.out) hb)
    have n3_ := A_ (below_step (by repeat (first | (with_reducible first | exact HB.out | apply b1_ | apply b2_ | apply b3_ | apply c_ GE120 | apply c_ GE121 | apply c_ GE122) | exact HB.out)) hb)
    have n4_ := A_ (hbox)
    have n5_ := A_ (ge_ hg)
    have GE125 := n5_
    have NB120_125 := A_ (nl_ hg (bz_ BK120.out))
    have NB125_120 := A_ (ng_ hg (bz_ BK120.out))
    have NB121_125 := A_ (nl_ hg (bz_ BK121.out))
    have NB125_121 := A_ (ng_ hg (bz_ BK121.out))
    have NB122_125 := A_ (nl_ hg (bz_ BK122.out))
    have NB125_122 := A_ (ng_ hg (bz_ BK122.out))
    clear BK120 BK121
    clear BK122 HB
    have BK120 := n0_
    have BK121 := n1_
    have BK122 := n2_
    have HB := n3_
    have BK125 := n4_
    have GW125 := n5_
    clear n0_ n1_ n2_ n3_ n4_ n5_
    clear hb hbox hg
    refine hK.out _ _ ⟨bc_ BK120.out 0, bc_ BK120.out 1, bc_ BK121.out 0, bc_ BK121.out 1⟩ (fun hHeld => ?_)
    clear hK K
    refine norm_ (a' := ?_) ?_ ?_
    rotate_left
    ·show Act.put _ (some 8) _ = _
     simp only [Act.put, x1_, x2_, x3_, i64_w, i32_w]
     rfl
    refine one_ (i := 4) (N := some 13) #[true, true, true, true, true, true, true, true, true, false, false, true, false] rfl rfl (one_of HT_.out (by kernel_rfl)) (by decide) (fun K hK => ?_)
    refine goes_ Try.func71 (by kernel_rfl) rfl #[.int .i64 a1_0, .int .i64 a2_0] (by rfl) rfl rfl (by (try simp only [List.map_toArray, List.map_cons, List.map_nil]); first | done | rfl) ?_
    with_reducible refine (spec_l3Max.calls a1_0 a2_0 t123 _ A4.out).mono ?_
    rintro e w' ⟨rfl, ⟨nd, rfl⟩⟩
    refine ⟨_, rfl, ?_⟩
    refine hK.out _ _ ⟨bc_ BK120.out 0, bc_ BK120.out 1, bc_ BK121.out 0, bc_ BK121.out 1⟩ (fun hHeld => ?_)
    clear hK K
    refine norm_ (a' := ?_) ?_ ?_
    rotate_left
    ·show Act.put _ (some 13) _ = _
     simp only [Act.put, x1_, x2_, x3_, i64_w, i32_w]
     rfl
    refine one_ (i := 9) (N := some 18) #[true, true, true, true, true, true, true, true, true, true, false, true, false] rfl rfl (one_of HT_.out (by kernel_rfl)) (by decide) (fun K hK => ?_)
    refine goes_ Try.func72 (by kernel_rfl) rfl #[.int .i64 a1_1, .int .i64 a2_1] (by rfl) rfl rfl (by (try simp only [List.map_toArray, List.map_cons, List.map_nil]); first | done | rfl) ?_
    with_reducible refine (spec_l3Min.calls a1_1 a2_1 t124 _ A5.out).mono ?_
    rintro e w' ⟨rfl, ⟨nd, rfl⟩⟩
    refine ⟨_, rfl, ?_⟩
    refine hK.out _ _ ⟨bc_ BK120.out 0, bc_ BK120.out 1, bc_ BK121.out 0, bc_ BK121.out 1⟩ (fun hHeld => ?_)
    clear hK K
    refine norm_ (a' := ?_) ?_ ?_
    rotate_left
    ·show Act.put _ (some 18) _ = _
     simp only [Act.put, x1_, x2_, x3_, i64_w, i32_w]
     rfl
    refine pure_ (i := 10) (N := some 19) (v := ?_) (a' := ?_) #[true, true, true, true, true, true, true, true, true, true, true, true, false] rfl rfl (any_of HT_.out (by kernel_rfl)) (fun _ _ _ h => h) (Or.inl ⟨by rfl, ?_⟩) ?_ ?_
    rotate_left
    ·intro w'
     go_simp
     with_reducible rfl
    rotate_left
    ·simp only [Act.put, x1_, x2_, x3_, i64_w, i32_w]
     rfl
    exact norm_ (by simp only [putAll, Act.put, List.setIfInBounds_toArray, List.set_cons_zero, List.set_cons_succ]) (hCont (gb125) _ ⟨hHeld, (bz_ BK120.out), (bz_ BK121.out), (bz_ BK122.out), (bz_ BK125.out), GW125.out, GE125.out, NB120_125.out, NB125_120.out, NB121_125.out, NB125_121.out, NB122_125.out, NB125_122.out, (by repeat (first | (with_reducible first | exact HB.out | apply b1_ | apply b2_ | apply b3_ | apply c_ GE120 | apply c_ GE121 | apply c_ GE122 | apply c_ GE125) | exact HB.out))⟩)
  rintro gb125 w75 ⟨hS_, h0_, h1_, h2_, h3_, h4_, h5_, h6_, h7_, h8_, h9_, h10_, h11_, h12_⟩
  have n0_ : Aside0 (w75.heap[gb120]? = some (.cells #[.int .i64 a1_0, .int .i64 a1_1] 64 (0, 0))) := ⟨h0_⟩
  have n1_ : Aside0 (w75.heap[gb121]? = some (.cells #[.int .i64 a2_0, .int .i64 a2_1] 64 (0, 0))) := ⟨h1_⟩
  have n2_ : Aside0 (w75.heap[gb122]? = some (.cells #[.int .i64 0, .int .i64 0] 64 (0, 0))) := ⟨h2_⟩
  have n3_ : Aside0 (w75.heap[gb125]? = some (.cells #[.int .i64 0, .int .i64 0] 64 (0, 0))) := ⟨h3_⟩
  have GW125 : Aside0 (w.heap.size ≤ gb125) := ⟨h4_⟩
  have GE125 : Aside0 (w.heap.size ≤ gb125) := ⟨h5_⟩
  have NB120_125 := A_ h6_
  have NB125_120 := A_ h7_
  have NB121_125 := A_ h8_
  have NB125_121 := A_ h9_
  have NB122_125 := A_ h10_
  have NB125_122 := A_ h11_
  have n12_ : Aside0 (Below w.heap.size w w75) := ⟨h12_⟩
  clear BK120 BK121
  clear BK122 HB
  clear h0_ h1_ h2_ h3_ h4_ h5_ h6_ h7_ h8_ h9_ h10_ h11_ h12_
  have BK120 := n0_
  have BK121 := n1_
  have BK122 := n2_
  have BK125 := n3_
  have HB := n12_
  clear n0_ n1_ n2_ n3_ n12_
  have hHeld : w75.cell? ⟨gb120, 0, none⟩ = some (.int .i64 a1_0) ∧ w75.cell? ⟨gb120, 1, none⟩ = some (.int .i64 a1_1) ∧ w75.cell? ⟨gb121, 0, none⟩ = some (.int .i64 a2_0) ∧ w75.cell? ⟨gb121, 1, none⟩ = some (.int .i64 a2_1) := hS_
  refine norm_ (a' := ?_) ?_ ?_
  rotate_left
  ·simp only [putAll, Act.put, List.setIfInBounds_toArray, List.set_cons_zero, List.set_cons_succ]
   rfl
  refine one_ (i := 12) (N := none) #[true, true, true, true, true, true, true, true, true, true, true, true, true] rfl rfl (one_of HT_.out (by kernel_rfl)) (by decide) (fun K hK => ?_)
  have hs76 : w75.cell? ⟨gb125, 0, none⟩ = some (.int .i64 0) := bc_ BK125.out 0
  have hfs76 := blk_frozen BK125.out 0
  have hns76_0 := NB120_125.out
  have hns76_1 := NB121_125.out
  have hns76_2 := NB122_125.out
  have hms76_0 := NB125_120.out
  have hms76_1 := NB125_121.out
  have hms76_2 := NB125_122.out
  have hs77 : w75.cell? ⟨gb125, 1, none⟩ = some (.int .i64 0) := bc_ BK125.out 1
  have hfs77 := blk_frozen BK125.out 1
  have hns77_0 := NB120_125.out
  have hns77_1 := NB121_125.out
  have hns77_2 := NB122_125.out
  have hms77_0 := NB125_120.out
  have hms77_1 := NB125_121.out
  have hms77_2 := NB125_122.out
  refine skip_ (w1 := ?_) (by rfl) rfl ?_ ?_
  rotate_left
  ·go_simp
   rfl
  refine hK.out _ _ ⟨((cell_far (p := ⟨gb125, _, none⟩) NB120_125.out _).trans (((cell_far (p := ⟨gb125, _, none⟩) NB120_125.out _).trans (hHeld.1)))), ((cell_far (p := ⟨gb125, _, none⟩) NB120_125.out _).trans (((cell_far (p := ⟨gb125, _, none⟩) NB120_125.out _).trans (hHeld.2.1)))), ((cell_far (p := ⟨gb125, _, none⟩) NB121_125.out _).trans (((cell_far (p := ⟨gb125, _, none⟩) NB121_125.out _).trans (hHeld.2.2.1)))), ((cell_far (p := ⟨gb125, _, none⟩) NB121_125.out _).trans (((cell_far (p := ⟨gb125, _, none⟩) NB121_125.out _).trans (hHeld.2.2.2))))⟩ (fun hHeld => ?_)
  clear hK K
  refine done_ (done_of HT_.out (by kernel_rfl)) ?_
  have hnb78 := NB120_121.out
  have hnc78 := NB121_120.out
  have hnb79 := NB120_122.out
  have hnc79 := NB122_120.out
  have hnb80 := NB120_125.out
  have hnc80 := NB125_120.out
  have hcz81_0 : w75.cell? ⟨gb120, 0, none⟩ = some (.int .i64 a1_0) := bc_ BK120.out 0
  have hcz81_1 : w75.cell? ⟨gb120, 1, none⟩ = some (.int .i64 a1_1) := bc_ BK120.out 1
  have hfz81_0 := blk_frozen BK120.out 0
  have hfz81_1 := blk_frozen BK120.out 1
  try go_wp2_with (first | ((with_reducible refine gate_callee (f := 49) rfl ?_); refine goesL_ (some 22) rfl rfl Try.func49 (by kernel_rfl) rfl #[.int .i64 a0, .agg #[.int .i64 a1_0, .int .i64 a1_1]] rfl (by (try simp only [List.map_toArray, List.map_cons, List.map_nil]); first | done | rfl) ?_; (with_reducible refine (spec_PairOk.calls a0 a1_0 a1_1 false _ A6.out).mono ?_); rintro e w82 ⟨rfl, hb⟩; refine ⟨_, rfl, ?_⟩; have n0_ := A_ (blk_below (g := gb120) (o := .cells #[.int .i64 a1_0, .int .i64 a1_1] 64 (0, 0)) (by (with_reducible repeat (first | apply bn_ | apply bd_ | apply ba_)); refine blk_far ?_ NB120_125.out _; (with_reducible repeat (first | apply bn_ | apply bd_ | apply ba_)); refine blk_far ?_ NB120_125.out _; (with_reducible repeat (first | apply bn_ | apply bd_ | apply ba_)); exact BK120.out) hb); have n1_ := A_ (blk_below (g := gb121) (o := .cells #[.int .i64 a2_0, .int .i64 a2_1] 64 (0, 0)) (by (with_reducible repeat (first | apply bn_ | apply bd_ | apply ba_)); refine blk_far ?_ NB121_125.out _; (with_reducible repeat (first | apply bn_ | apply bd_ | apply ba_)); refine blk_far ?_ NB121_125.out _; (with_reducible repeat (first | apply bn_ | apply bd_ | apply ba_)); exact BK121.out) hb); have n2_ := A_ (blk_below (g := gb122) (o := .cells #[.int .i64 0, .int .i64 0] 64 (0, 0)) (by (with_reducible repeat (first | apply bn_ | apply bd_ | apply ba_)); refine blk_far ?_ NB122_125.out _; (with_reducible repeat (first | apply bn_ | apply bd_ | apply ba_)); refine blk_far ?_ NB122_125.out _; (with_reducible repeat (first | apply bn_ | apply bd_ | apply ba_)); exact BK122.out) hb); have n3_ := A_ (blk_below (g := gb125) (o := .cells #[.int .i64 t123, .int .i64 t124] 64 (0, 0)) (by (with_reducible repeat (first | apply bn_ | apply bd_ | apply ba_)); refine blk_put (cs := #[.int .i64 t123, .int .i64 0]) ?_ 1 _ (by first | rfl | (simp [*]; done)); (with_reducible repeat (first | apply bn_ | apply bd_ | apply ba_)); refine blk_put (cs := #[.int .i64 0, .int .i64 0]) ?_ 0 _ (by first | rfl | (simp [*]; done)); (with_reducible repeat (first | apply bn_ | apply bd_ | apply ba_)); exact BK125.out) hb); have n4_ := A_ (below_step (by repeat (first | (with_reducible first | exact HB.out | apply b1_ | apply b2_ | apply b3_ | apply c_ GE120 | apply c_ GE121 | apply c_ GE122 | apply c_ GE125) | exact HB.out)) hb); clear BK120 BK121 BK122 BK125 HB; have BK120 := n0_; have BK121 := n1_; have BK122 := n2_; have BK125 := n3_; have HB := n4_; clear n0_ n1_ n2_ n3_ n4_; (try clear hb); (try clear hb2); (try clear hk); (try clear hi); have hnb83 := NB122_121.out; have hnc83 := NB121_122.out; have hnb84 := NB122_125.out; have hnc84 := NB125_122.out; have hcz85_0 : w82.cell? ⟨gb122, 0, none⟩ = some (.int .i64 0) := bc_ BK122.out 0; have hcz85_1 : w82.cell? ⟨gb122, 1, none⟩ = some (.int .i64 0) := bc_ BK122.out 1; have hfz85_0 := blk_frozen BK122.out 0; have hfz85_1 := blk_frozen BK122.out 1))
  refine bodyPost_ret (results_ct rfl _ _ gb122 64 #[.int .i64 0, .int .i64 0] (0, 0) _ rfl (by (with_reducible repeat (first | apply bn_ | apply bd_ | apply ba_)); refine blk_put (cs := #[.int .i64 0, .int .i64 0]) ?_ 1 _ (by first | rfl | (simp [*]; done)); (with_reducible repeat (first | apply bn_ | apply bd_ | apply ba_)); refine blk_put (cs := #[.int .i64 0, .int .i64 0]) ?_ 0 _ (by first | rfl | (simp [*]; done)); (with_reducible repeat (first | apply bn_ | apply bd_ | apply ba_)); exact BK122.out) Try.underlying64 rfl (by kernel_rfl)) rfl ?_
  exact ⟨by first | rfl | (simp [errW_none, errW_some] <;> rfl) | (simp [*, errW_none, errW_some] <;> rfl), by repeat (first | (with_reducible first | exact HB.out | apply b1_ | apply b2_ | apply b3_ | apply c_ GE120 | apply c_ GE121 | apply c_ GE122 | apply c_ GE125) | exact HB.out)⟩

end Go.Proofs.Ytlnihglcneaonaa.QFnExactRelMeet
