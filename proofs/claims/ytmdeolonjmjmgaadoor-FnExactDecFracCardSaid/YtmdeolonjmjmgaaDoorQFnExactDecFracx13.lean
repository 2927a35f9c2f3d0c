/- The machine side of one law: each function and the law itself walked once, written by a program of this session (wip/xprint.py) that runs the printer of the kit.
   Conditions: none. -/
import Derived.Test.YtmdeolonjmjmgaaDoorQFnExactDecFracx0
import Derived.Test.YtmdeolonjmjmgaaDoorQFnExactDecFracx7
import Derived.Test.YtmdeolonjmjmgaaDoorQFnExactDecFracx9
import Derived.Test.YtmdeolonjmjmgaaDoorQFnExactDecFracx10
import Derived.Test.YtmdeolonjmjmgaaDoorQFnExactDecFracx12
namespace Go.Proofs.YtmdeolonjmjmgaaDoor.QFnExactDecFrac
open Go.RowKit Go.Proofs.YtmdeolonjmjmgaaDoorW.PrintWords Go.Proofs.YtmdeolonjmjmgaaDoorW.PrintLast Go.Proofs.YtmdeolonjmjmgaaDoorW.PrintMore Go.Proofs.YtmdeolonjmjmgaaDoor.MX
attribute [local go_sem] Go.Instr.field Go.asAgg Go.Proofs.YtmdeolonjmjmgaaDoor.MS.isSome_setCell Go.Proofs.YtmdeolonjmjmgaaDoor.MT.gtr Go.Proofs.YtmdeolonjmjmgaaDoor.MT.td
attribute [local go_sem] max2_int min2_int max_two min_two max_three min_three max_four min_four   -- for this text's walks alone
set_option linter.unusedVariables false
set_option linter.unusedSimpArgs false

/-! ### impl_natGcd: function 48 -/
/-- natDiv, whose rest may be the very row that came in. -/
theorem impl_natDiv.callsR (k : Nat) (v0 v1 : Value) (l0 l1 r1 r2 : List Int) (w : World) (h0 : Rd w v0 l0) (h1 : Rd w v1 l1) (h : impl_natDiv.f k l0 l1 = some (r1, r2)) :
  Calls Tryd.prog 50 #[v0, v1] w fun e w' => ∃ u0 u1 : Value, e = .returned (.tuple #[u0, u1]) ∧ Rd w' u0 r1 ∧ Rd w' u1 r2 ∧ Below w.heap.size w w' := by
 obtain ⟨A0, c0, rfl, hc0, hr0⟩ := h0
 obtain ⟨A1, c1, rfl, hc1, hr1⟩ := h1
 refine (impl_natDiv.calls k A0 c0 l0 A1 c1 l1 r1 r2 w hr0 hc0 hr1 hc1 h).mono fun e w' hp => ?_
 rcases hp with ⟨v0, v1, he, h0, h1, hb⟩ | ⟨he, rfl, rfl, hb⟩
 ·exact ⟨v0, v1, he, Rd_V h0, Rd_V h1, hb⟩
 ·exact ⟨_, _, he, ⟨none, 0, rfl, Nat.le_refl _, Kd.C_of_reads (d := (0 : Int)) (h1 := fun _ => rfl) ⟨rfl, by simp, fun h => absurd h (by simp)⟩⟩, ⟨A0, c0, rfl, hc0, Kd.C_below hr0 hb⟩, hb⟩
def impl_natGcd.l0 : Nat → List Int → List Int → Option (List Int)
 | 0, _, _ => none
 | k + 1, x0, x1 => if (x1.length : Int) > 0 then ((impl_natDiv.f k x0 x1).bind fun bt483 => (impl_natGcd.l0 k x1 bt483.2)) else (some x0)
def impl_natGcd.f (k : Nat) (l0 : List Int) (l1 : List Int) : Option (List Int) := impl_natGcd.l0 k l0 l1
set_option maxHeartbeats 8000000 in
set_option maxRecDepth 100000 in
theorem impl_natGcd.callsR (k : Nat) (v0 v1 : Value) (l0 l1 r : List Int) (w : World) (h0 : Rd w v0 l0) (h1 : Rd w v1 l1) (h : impl_natGcd.f k l0 l1 = some r) :
  Calls Tryd.prog 48 #[v0, v1] w fun e w' => ∃ u : Value, e = .returned u ∧ Rd w' u r ∧ Below w.heap.size w w' := by
 have HO0 := A_ h0
 have HO1 := A_ h1
 have HB := A_ (Below.refl w.heap.size w)
 have H' := A_ (show impl_natGcd.l0 k l0 l1 = some r from h)
 clear h h0 h1
 go_enter Tryd.func48, Tryd.ntmps48
 go_wp2
 go_loopg [0, 1] k (fun kq v0 v1 w' => ∃ (x0_1 : List Int) (x1_1 : List Int), Aside0 (impl_natGcd.l0 kq x0_1 x1_1 = some r) ∧ Aside0 (kq ≤ k) ∧ Aside0 (Rd w' v0 x0_1) ∧ Aside0 (Rd w' v1 x1_1) ∧ Aside0 (Below w.heap.size w w'))
 case atStart => exact ⟨(l0), (l1), H', ⟨Nat.le_refl _⟩, ⟨by (with_reducible repeat (first | apply Rd_alloc | apply Rd_drewN | apply Rd_drew)); exact HO0.out⟩, ⟨by (with_reducible repeat (first | apply Rd_alloc | apply Rd_drewN | apply Rd_drew)); exact HO1.out⟩, ⟨hB_⟩⟩
 case round =>
  clear H'
  obtain ⟨x0_1, x1_1, HA, HK1, HO_0, HO_1, HB⟩ := hrel
  cases gk with
  | zero => exact absurd HA.out (by simp [impl_natGcd.l0])
  | succ k1 =>
   have H := HA.out
   clear HA
   simp only [impl_natGcd.l0] at H
   obtain ⟨A5, c5, eo5, _⟩ := HO_1.out
   subst eo5
   by_cases c3 : (x1_1.length : Int) > 0
   ·rw [if_pos c3] at H
    have c3b0 : decide (0 < (x1_1.length : Int)) = true := decide_eq_true c3
    have c3b1 : decide (0 < x1_1.length) = true := decide_eq_true (by omega)
    clear c3
    replace H := Option.bind_eq_some_iff.mp H
    obtain ⟨⟨t483, t486⟩, A40, H⟩ := H
    replace H : (impl_natGcd.l0 k1 x1_1 t486) = some r := H
    have A4 := A_ A40
    clear A40
    have H' := A_ H
    clear H
    go_wp2_with (go_at_call 50; (with_reducible refine (impl_natDiv.callsR k1 _ _ x0_1 x1_1 t483 t486 _ ?side1 ?side3 A4.out).mono ?_); (case side1 => (with_reducible repeat (first | apply Rd_alloc | apply Rd_drewN | apply Rd_drew)); exact HO_0.out); (case side3 => (with_reducible repeat (first | apply Rd_alloc | apply Rd_drewN | apply Rd_drew)); exact HO_1.out); rintro e w7 ⟨v484, v487, rfl, ho0, ho1, hb⟩; have n1_ := A_ (Rd_below (by (with_reducible repeat (first | apply Rd_alloc | apply Rd_drewN | apply Rd_drew)); exact HO_1.out) hb); have n2_ := A_ ho1; have n4_ := A_ (below_step hB_ hb); clear HO_0 HO_1 HB; have HO_1 := n1_; have HO488 := n2_; have HB := n4_; clear n1_ n2_ n4_; (try clear hb); (try clear ho0); (try clear ho1))
    go_roundg k1
    case measure => have := HK1.out; omega
    case rel => exact ⟨(x1_1), (t486), H', ⟨by have := HK1.out; omega⟩, ⟨by (with_reducible repeat (first | apply Rd_alloc | apply Rd_drewN | apply Rd_drew)); exact HO_1.out⟩, ⟨by (with_reducible repeat (first | apply Rd_alloc | apply Rd_drewN | apply Rd_drew)); exact HO488.out⟩, ⟨hB_⟩⟩
   ·rw [if_neg c3] at H
    have c3b0 : decide (0 < (x1_1.length : Int)) = false := decide_eq_false c3
    have c3b1 : decide (0 < x1_1.length) = false := decide_eq_false (by omega)
    clear c3
    obtain rfl := Option.some.inj H
    go_wp2
    go_ret
    exact ⟨_, rfl, by (with_reducible repeat (first | apply Rd_alloc | apply Rd_drewN | apply Rd_drew)); exact HO_0.out, hB_⟩

/-! ### impl_lowest: function 30 -/
theorem impl_natCmp.callsR (k : Nat) (v0 v1 : Value) (l0 l1 : List Int) (r : Int) (w : World) (h0 : Rd w v0 l0) (h1 : Rd w v1 l1) (h : impl_natCmp.f k l0 l1 = some r) :
  Calls Tryd.prog 49 #[v0, v1] w fun e w' => e = .returned (.int .i64 r) ∧ Below w.heap.size w w' := by
 obtain ⟨A0, c0, rfl, hc0, hr0⟩ := h0
 obtain ⟨A1, c1, rfl, hc1, hr1⟩ := h1
 exact impl_natCmp.calls k A0 c0 l0 A1 c1 l1 r w hr0 hc0 hr1 hc1 h
set_option maxHeartbeats 8000000 in
set_option maxRecDepth 100000 in
/-- A whole number as a fraction: the row itself over one. -/
theorem impl_whole.callsR (v1 : Value) (l1 : List Int) (w : World) (h1 : Rd w v1 l1) :
  Calls Tryd.prog 27 #[.bool false, v1] w fun e w' => ∃ u1 u2 : Value, e = .returned (.agg #[.bool false, u1, u2]) ∧ Rd w' u1 l1 ∧ Rd w' u2 [1] ∧ Below w.heap.size w w' := by
 have hu25 := Tryd.underlying25
 have HB := A_ (Below.refl w.heap.size w)
 have HR1 := A_ h1
 obtain ⟨A1, c1, rfl, _⟩ := h1
 go_enter Tryd.func27, Tryd.ntmps27
 go_wp2_with (first | ((with_reducible refine gate_dst (N := 4) rfl ?_); (try (refine gate_guard (by rfl) ?_; dsimp only)); refine box_event ?hg (N := 4) ?hd (cs := #[.bool false, .slice none 0 0, .slice none 0 0]) (t := 25) ?hr ?_; (case hd => rfl); (case hg => rfl); (case hr => first | (go_simp; done) | (go_simp; rfl)); intro gb373 hg w10 hbox hb; have n0_ := A_ (Rd_below (by (with_reducible repeat (first | apply Rd_alloc | apply Rd_drewN | apply Rd_drew)); exact HR1.out) hb); have n2_ := A_ (below_step hB_ hb); have n3_ := A_ (hbox); have n5_ := A_ ((by rw [hg]; exact (below_size hB_) : w.heap.size ≤ gb373)); clear HB HR1; have HR1 := n0_; have HB := n2_; have BK373 := n3_; have GE373 := n5_; clear n0_ n2_ n3_ n5_; clear hb hbox hg) | ((with_reducible refine gate_dst (N := 12) rfl ?_); (try (refine gate_guard (by rfl) ?_; dsimp only)); refine XR_lit (Kd.int .i64) _ 3 ?hg (N := 12) ?hd (xs := ([1] : List Int)) (inner := [.int .i64 1]) (ok := fun _ => True) (okp := fun _ => True) ?hr ?hp (fun _ hk => hk) trivial (Below.refl _ _) (Nat.le_refl _) (by simp) ?_; (case hd => rfl); (case hg => rfl); (case hr => first | (go_simp; done) | (go_simp; rfl)); (case hp => exact (Reps.one (show Kd.M (Kd.int .i64) _ _ _ 1 [.int .i64 1] from rfl) (Reps.none _ _))); intro v378 w11 ho12 hb hg_ hnew_; clear hg_ hnew_; have ho13 := Rd_X ho12; have n0_ := A_ (Rd_below (by (with_reducible repeat (first | apply Rd_alloc | apply Rd_drewN | apply Rd_drew)); exact HR1.out) hb); have n1_ := A_ ho13; have n2_ := A_ (blk_below (bz_ BK373.out) hb); have n4_ := A_ (below_step (by repeat (first | (with_reducible first | exact HB.out | apply b1_ | apply b2_ | apply b3_ | apply c_ GE373) | exact HB.out)) hb); clear HR1 BK373 HB; have HR1 := n0_; have HO379 := n1_; have BK373 := n2_; have HB := n4_; clear n0_ n1_ n2_ n4_; clear hb ho12 ho13; obtain ⟨Ao13, co13, eo13, _⟩ := HO379.out; subst eo13; have hw_ := A_ (below_size HB.out); have hcz15_0 : w11.cell? ⟨gb373, 0, none⟩ = some (.bool false) := (blk_cell BK373.out 0).trans rfl; have hcz15_1 : w11.cell? ⟨gb373, 1, none⟩ = some (.slice none 0 0) := (blk_cell BK373.out 1).trans rfl; have hcz15_2 : w11.cell? ⟨gb373, 2, none⟩ = some (.slice none 0 0) := (blk_cell BK373.out 2).trans rfl; have hfz15_0 := blk_frozen BK373.out 0; have hfz15_1 := blk_frozen BK373.out 1; have hfz15_2 := blk_frozen BK373.out 2))
 refine bodyPost_ret (results_cell_row rfl _ _ gb373 25 #[.bool false, .slice A1 l1.length c1, .slice Ao13 1 co13] (0, 0) _ rfl (by (with_reducible repeat (first | apply bn_ | apply bd_ | apply ba_)); refine blk_put (cs := #[.bool false, .slice A1 l1.length c1, .slice none 0 0]) ?_ 2 _ (by first | rfl | (simp [*]; done)); refine blk_put (cs := #[.bool false, .slice none 0 0, .slice none 0 0]) ?_ 1 _ (by first | rfl | (simp [*]; done)); refine blk_put (cs := #[.bool false, .slice none 0 0, .slice none 0 0]) ?_ 0 _ (by first | rfl | (simp [*]; done)); exact BK373.out) Tryd.underlying25 rfl (by kernel_rfl)) rfl ?_
 exact ⟨_, _, rfl, Rd_box HR1.out BK373.out _ _ _, Rd_box HO379.out BK373.out _ _ _, below_set (below_set (below_set HB.out GE373.out) GE373.out) GE373.out⟩
def impl_lowest.f (k : Nat) (a0 : Bool) (l1 : List Int) (l2 : List Int) : Option (Bool × List Int × List Int) := ((impl_natGcd.f k l1 l2).bind fun t490 => ((impl_natCmp.f k t490 (([1] : List Int))).bind fun t496 => (if t496 = 0 then (if a0 = true then (some (decide ((l1.length : Int) > 0), l1, l2)) else (some (false, l1, l2))) else ((impl_natDiv.f k l1 t490).bind fun bt497 => ((impl_natDiv.f k l2 t490).bind fun bt503 => (if a0 = true then (some (decide ((bt497.1.length : Int) > 0), bt497.1, bt503.1)) else (some (false, bt497.1, bt503.1))))))))
set_option maxHeartbeats 8000000 in
set_option maxRecDepth 100000 in
theorem impl_lowest.callsR (k : Nat) (v1 v2 : Value) (l1 l2 : List Int) (r1 : Bool) (r2 r3 : List Int) (w : World) (h1 : Rd w v1 l1) (h2 : Rd w v2 l2) (h : impl_lowest.f k false l1 l2 = some (r1, r2, r3)) :
  Calls Tryd.prog 30 #[.bool false, v1, v2] w fun e w' => ∃ u1 u2 : Value, e = .returned (.agg #[.bool r1, u1, u2]) ∧ Rd w' u1 r2 ∧ Rd w' u2 r3 ∧ Below w.heap.size w w' := by
 have hu25 := Tryd.underlying25
 have HB := A_ (Below.refl w.heap.size w)
 have HR1 := A_ h1
 have HR2 := A_ h2
 obtain ⟨A1, c1, rfl, _⟩ := h1
 obtain ⟨A2, c2, rfl, _⟩ := h2
 have H : ((impl_natGcd.f k l1 l2).bind fun t490 => ((impl_natCmp.f k t490 (([1] : List Int))).bind fun t496 => (if t496 = 0 then (if false = true then (some (decide ((l1.length : Int) > 0), l1, l2)) else (some (false, l1, l2))) else ((impl_natDiv.f k l1 t490).bind fun bt497 => ((impl_natDiv.f k l2 t490).bind fun bt503 => (if false = true then (some (decide ((bt497.1.length : Int) > 0), bt497.1, bt503.1)) else (some (false, bt497.1, bt503.1)))))))) = some (r1, r2, r3) := h
 clear h
 replace H := Option.bind_eq_some_iff.mp H
 obtain ⟨t490, A40, H⟩ := H
 have A4 := A_ A40
 clear A40
 replace H := Option.bind_eq_some_iff.mp H
 obtain ⟨t496, A50, H⟩ := H
 have A5 := A_ A50
 clear A50
 by_cases c6 : t496 = 0
 ·rw [if_pos c6, if_neg (show ¬ (false = true) by decide)] at H
  have c6b0 : (t496 == 0) = true := beq_iff_eq.mpr c6
  have c6b1 : (t496 != 0) = false := bne_eq_false_iff_eq.mpr c6
  clear c6
  simp only [Option.some.injEq, Prod.mk.injEq] at H
  obtain ⟨rfl, rfl, rfl⟩ := H
  go_enter Tryd.func30, Tryd.ntmps30
  go_wp2_with (first | ((with_reducible refine gate_dst (N := 6) rfl ?_); (try (refine gate_guard (by rfl) ?_; dsimp only)); refine box_event ?hg (N := 6) ?hd (cs := #[.bool false, .slice none 0 0, .slice none 0 0]) (t := 25) ?hr ?_; (case hd => rfl); (case hg => rfl); (case hr => first | (go_simp; done) | (go_simp; rfl)); intro gb hg w8 hbox hb; have GE := A_ ((by rw [hg]; exact (below_size hB_)) : w.heap.size ≤ gb); have BK := A_ hbox; clear hbox hg; have n0_ := A_ (Rd_below (by (with_reducible repeat (first | apply Rd_alloc | apply Rd_drewN | apply Rd_drew)); exact HR1.out) hb); have n1_ := A_ (Rd_below (by (with_reducible repeat (first | apply Rd_alloc | apply Rd_drewN | apply Rd_drew)); exact HR2.out) hb); have n2_ := A_ (below_step hB_ hb); clear HR1 HR2 HB; have HR1 := n0_; have HR2 := n1_; have HB := n2_; clear n0_ n1_ n2_; clear hb) | (go_at_call 48; (with_reducible refine (impl_natGcd.callsR k _ _ l1 l2 t490 _ ?s1 ?s2 A4.out).mono ?_); (case s1 => (with_reducible repeat (first | apply Rd_alloc | apply Rd_drewN | apply Rd_drew)); exact HR1.out); (case s2 => (with_reducible repeat (first | apply Rd_alloc | apply Rd_drewN | apply Rd_drew)); exact HR2.out); rintro e w9 ⟨v490, rfl, ho, hb⟩; have HR3 := A_ ho; clear ho; have n0_ := A_ (Rd_below (by (with_reducible repeat (first | apply Rd_alloc | apply Rd_drewN | apply Rd_drew)); exact HR1.out) hb); have n1_ := A_ (Rd_below (by (with_reducible repeat (first | apply Rd_alloc | apply Rd_drewN | apply Rd_drew)); exact HR2.out) hb); have n2_ := A_ (blk_below (g := gb) (o := .cells #[.bool false, .slice none 0 0, .slice none 0 0] 25 (0, 0)) (by (with_reducible repeat (first | apply bn_ | apply bd_ | apply ba_)); exact BK.out) hb); have n3_ := A_ (below_step hB_ hb); clear HR1 HR2 BK HB; have HR1 := n0_; have HR2 := n1_; have BK := n2_; have HB := n3_; clear n0_ n1_ n2_ n3_; clear hb; obtain ⟨A3, c3_, eo3, _⟩ := HR3.out; subst eo3) | ((with_reducible refine gate_dst (N := 12) rfl ?_); (try (refine gate_guard (by rfl) ?_; dsimp only)); refine XR_lit (Kd.int .i64) _ 3 ?hg (N := 12) ?hd (xs := ([1] : List Int)) (inner := [.int .i64 1]) (ok := fun _ => True) (okp := fun _ => True) ?hr ?hp (fun _ hk => hk) trivial (Below.refl _ _) (Nat.le_refl _) (by simp) ?_; (case hd => rfl); (case hg => rfl); (case hr => first | (go_simp; done) | (go_simp; rfl)); (case hp => exact (Reps.one (show Kd.M (Kd.int .i64) _ _ _ 1 [.int .i64 1] from rfl) (Reps.none _ _))); intro v378 w11 ho12 hb hg_ hnew_; clear hg_ hnew_; have HR4 := A_ (Rd_X ho12); clear ho12; have n0_ := A_ (Rd_below (by (with_reducible repeat (first | apply Rd_alloc | apply Rd_drewN | apply Rd_drew)); exact HR1.out) hb); have n1_ := A_ (Rd_below (by (with_reducible repeat (first | apply Rd_alloc | apply Rd_drewN | apply Rd_drew)); exact HR2.out) hb); have n2_ := A_ (Rd_below (by (with_reducible repeat (first | apply Rd_alloc | apply Rd_drewN | apply Rd_drew)); exact HR3.out) hb); have n3_ := A_ (blk_below (g := gb) (o := .cells #[.bool false, .slice none 0 0, .slice none 0 0] 25 (0, 0)) (by (with_reducible repeat (first | apply bn_ | apply bd_ | apply ba_)); exact BK.out) hb); have n4_ := A_ (below_step hB_ hb); clear HR1 HR2 HR3 BK HB; have HR1 := n0_; have HR2 := n1_; have HR3 := n2_; have BK := n3_; have HB := n4_; clear n0_ n1_ n2_ n3_ n4_; clear hb; obtain ⟨A4_, c4_, eo4, _⟩ := HR4.out; subst eo4) | (go_at_call 49; (with_reducible refine (impl_natCmp.callsR k _ _ t490 [1] t496 _ ?s1 ?s2 A5.out).mono ?_); (case s1 => (with_reducible repeat (first | apply Rd_alloc | apply Rd_drewN | apply Rd_drew)); exact HR3.out); (case s2 => (with_reducible repeat (first | apply Rd_alloc | apply Rd_drewN | apply Rd_drew)); exact HR4.out); rintro e w10 ⟨rfl, hb⟩; have n0_ := A_ (Rd_below (by (with_reducible repeat (first | apply Rd_alloc | apply Rd_drewN | apply Rd_drew)); exact HR1.out) hb); have n1_ := A_ (Rd_below (by (with_reducible repeat (first | apply Rd_alloc | apply Rd_drewN | apply Rd_drew)); exact HR2.out) hb); have n2_ := A_ (Rd_below (by (with_reducible repeat (first | apply Rd_alloc | apply Rd_drewN | apply Rd_drew)); exact HR3.out) hb); have n3_ := A_ (blk_below (g := gb) (o := .cells #[.bool false, .slice none 0 0, .slice none 0 0] 25 (0, 0)) (by (with_reducible repeat (first | apply bn_ | apply bd_ | apply ba_)); exact BK.out) hb); have n4_ := A_ (below_step hB_ hb); clear HR1 HR2 HR3 BK HB; have HR1 := n0_; have HR2 := n1_; have HR3 := n2_; have BK := n3_; have HB := n4_; clear n0_ n1_ n2_ n3_ n4_; clear hb; have hcz_0 : w10.cell? ⟨gb, 0, none⟩ = some (.bool false) := (blk_cell BK.out 0).trans rfl; have hcz_1 : w10.cell? ⟨gb, 1, none⟩ = some (.slice none 0 0) := (blk_cell BK.out 1).trans rfl; have hcz_2 : w10.cell? ⟨gb, 2, none⟩ = some (.slice none 0 0) := (blk_cell BK.out 2).trans rfl; have hfz_0 := blk_frozen BK.out 0; have hfz_1 := blk_frozen BK.out 1; have hfz_2 := blk_frozen BK.out 2))
  refine bodyPost_ret (results_cell_row rfl _ _ gb 25 #[.bool false, .slice A1 l1.length c1, .slice A2 l2.length c2] (0, 0) _ rfl (by (with_reducible repeat (first | apply bn_ | apply bd_ | apply ba_)); refine blk_put (cs := #[.bool false, .slice A1 l1.length c1, .slice none 0 0]) ?_ 2 _ (by first | rfl | (simp [*]; done)); refine blk_put (cs := #[.bool false, .slice none 0 0, .slice none 0 0]) ?_ 1 _ (by first | rfl | (simp [*]; done)); refine blk_put (cs := #[.bool false, .slice none 0 0, .slice none 0 0]) ?_ 0 _ (by first | rfl | (simp [*]; done)); (with_reducible repeat (first | apply bn_ | apply bd_ | apply ba_)); exact BK.out) Tryd.underlying25 rfl (by kernel_rfl)) rfl ?_
  exact ⟨_, _, rfl, by (with_reducible repeat (first | apply Rd_alloc | apply Rd_drewN | apply Rd_drew)); refine Rd_box (t := 25) ?_ ?_ _ _ _; (with_reducible repeat (first | apply Rd_alloc | apply Rd_drewN | apply Rd_drew)); exact HR1.out; (with_reducible repeat (first | apply bn_ | apply bd_ | apply ba_)); exact BK.out, by (with_reducible repeat (first | apply Rd_alloc | apply Rd_drewN | apply Rd_drew)); refine Rd_box (t := 25) ?_ ?_ _ _ _; (with_reducible repeat (first | apply Rd_alloc | apply Rd_drewN | apply Rd_drew)); exact HR2.out; (with_reducible repeat (first | apply bn_ | apply bd_ | apply ba_)); exact BK.out, by repeat (first | (with_reducible first | exact HB.out | apply b1_ | apply b2_ | apply b3_ | refine bs_ ?_ GE.out) | exact HB.out)⟩
 ·rw [if_neg c6] at H
  have c6b0 : (t496 == 0) = false := beq_eq_false_iff_ne.mpr c6
  have c6b1 : (t496 != 0) = true := bne_iff_ne.mpr c6
  clear c6
  replace H := Option.bind_eq_some_iff.mp H
  obtain ⟨⟨t497, t498⟩, A60, H⟩ := H
  have A6 := A_ A60
  clear A60
  replace H := Option.bind_eq_some_iff.mp H
  obtain ⟨⟨t503, t504⟩, A70, H⟩ := H
  have A7 := A_ A70
  clear A70
  rw [if_neg (show ¬ (false = true) by decide)] at H
  simp only [Option.some.injEq, Prod.mk.injEq] at H
  obtain ⟨rfl, rfl, rfl⟩ := H
  go_enter Tryd.func30, Tryd.ntmps30
  go_wp2_with (first | ((with_reducible refine gate_dst (N := 6) rfl ?_); (try (refine gate_guard (by rfl) ?_; dsimp only)); refine box_event ?hg (N := 6) ?hd (cs := #[.bool false, .slice none 0 0, .slice none 0 0]) (t := 25) ?hr ?_; (case hd => rfl); (case hg => rfl); (case hr => first | (go_simp; done) | (go_simp; rfl)); intro gb hg w8 hbox hb; have GE := A_ ((by rw [hg]; exact (below_size hB_)) : w.heap.size ≤ gb); have BK := A_ hbox; clear hbox hg; have n0_ := A_ (Rd_below (by (with_reducible repeat (first | apply Rd_alloc | apply Rd_drewN | apply Rd_drew)); exact HR1.out) hb); have n1_ := A_ (Rd_below (by (with_reducible repeat (first | apply Rd_alloc | apply Rd_drewN | apply Rd_drew)); exact HR2.out) hb); have n2_ := A_ (below_step hB_ hb); clear HR1 HR2 HB; have HR1 := n0_; have HR2 := n1_; have HB := n2_; clear n0_ n1_ n2_; clear hb) | (go_at_call 48; (with_reducible refine (impl_natGcd.callsR k _ _ l1 l2 t490 _ ?s1 ?s2 A4.out).mono ?_); (case s1 => (with_reducible repeat (first | apply Rd_alloc | apply Rd_drewN | apply Rd_drew)); exact HR1.out); (case s2 => (with_reducible repeat (first | apply Rd_alloc | apply Rd_drewN | apply Rd_drew)); exact HR2.out); rintro e w9 ⟨v490, rfl, ho, hb⟩; have HR3 := A_ ho; clear ho; have n0_ := A_ (Rd_below (by (with_reducible repeat (first | apply Rd_alloc | apply Rd_drewN | apply Rd_drew)); exact HR1.out) hb); have n1_ := A_ (Rd_below (by (with_reducible repeat (first | apply Rd_alloc | apply Rd_drewN | apply Rd_drew)); exact HR2.out) hb); have n2_ := A_ (blk_below (g := gb) (o := .cells #[.bool false, .slice none 0 0, .slice none 0 0] 25 (0, 0)) (by (with_reducible repeat (first | apply bn_ | apply bd_ | apply ba_)); exact BK.out) hb); have n3_ := A_ (below_step hB_ hb); clear HR1 HR2 BK HB; have HR1 := n0_; have HR2 := n1_; have BK := n2_; have HB := n3_; clear n0_ n1_ n2_ n3_; clear hb; obtain ⟨A3, c3_, eo3, _⟩ := HR3.out; subst eo3) | ((with_reducible refine gate_dst (N := 12) rfl ?_); (try (refine gate_guard (by rfl) ?_; dsimp only)); refine XR_lit (Kd.int .i64) _ 3 ?hg (N := 12) ?hd (xs := ([1] : List Int)) (inner := [.int .i64 1]) (ok := fun _ => True) (okp := fun _ => True) ?hr ?hp (fun _ hk => hk) trivial (Below.refl _ _) (Nat.le_refl _) (by simp) ?_; (case hd => rfl); (case hg => rfl); (case hr => first | (go_simp; done) | (go_simp; rfl)); (case hp => exact (Reps.one (show Kd.M (Kd.int .i64) _ _ _ 1 [.int .i64 1] from rfl) (Reps.none _ _))); intro v378 w11 ho12 hb hg_ hnew_; clear hg_ hnew_; have HR4 := A_ (Rd_X ho12); clear ho12; have n0_ := A_ (Rd_below (by (with_reducible repeat (first | apply Rd_alloc | apply Rd_drewN | apply Rd_drew)); exact HR1.out) hb); have n1_ := A_ (Rd_below (by (with_reducible repeat (first | apply Rd_alloc | apply Rd_drewN | apply Rd_drew)); exact HR2.out) hb); have n2_ := A_ (Rd_below (by (with_reducible repeat (first | apply Rd_alloc | apply Rd_drewN | apply Rd_drew)); exact HR3.out) hb); have n3_ := A_ (blk_below (g := gb) (o := .cells #[.bool false, .slice none 0 0, .slice none 0 0] 25 (0, 0)) (by (with_reducible repeat (first | apply bn_ | apply bd_ | apply ba_)); exact BK.out) hb); have n4_ := A_ (below_step hB_ hb); clear HR1 HR2 HR3 BK HB; have HR1 := n0_; have HR2 := n1_; have HR3 := n2_; have BK := n3_; have HB := n4_; clear n0_ n1_ n2_ n3_ n4_; clear hb; obtain ⟨A4_, c4_, eo4, _⟩ := HR4.out; subst eo4) | (go_at_call 49; (with_reducible refine (impl_natCmp.callsR k _ _ t490 [1] t496 _ ?s1 ?s2 A5.out).mono ?_); (case s1 => (with_reducible repeat (first | apply Rd_alloc | apply Rd_drewN | apply Rd_drew)); exact HR3.out); (case s2 => (with_reducible repeat (first | apply Rd_alloc | apply Rd_drewN | apply Rd_drew)); exact HR4.out); rintro e w10 ⟨rfl, hb⟩; have n0_ := A_ (Rd_below (by (with_reducible repeat (first | apply Rd_alloc | apply Rd_drewN | apply Rd_drew)); exact HR1.out) hb); have n1_ := A_ (Rd_below (by (with_reducible repeat (first | apply Rd_alloc | apply Rd_drewN | apply Rd_drew)); exact HR2.out) hb); have n2_ := A_ (Rd_below (by (with_reducible repeat (first | apply Rd_alloc | apply Rd_drewN | apply Rd_drew)); exact HR3.out) hb); have n3_ := A_ (blk_below (g := gb) (o := .cells #[.bool false, .slice none 0 0, .slice none 0 0] 25 (0, 0)) (by (with_reducible repeat (first | apply bn_ | apply bd_ | apply ba_)); exact BK.out) hb); have n4_ := A_ (below_step hB_ hb); clear HR1 HR2 HR3 BK HB; have HR1 := n0_; have HR2 := n1_; have HR3 := n2_; have BK := n3_; have HB := n4_; clear n0_ n1_ n2_ n3_ n4_; clear hb) | (go_at_call 50; (with_reducible refine (impl_natDiv.callsR k _ _ l1 t490 t497 t498 _ ?s1 ?s2 A6.out).mono ?_); (case s1 => (with_reducible repeat (first | apply Rd_alloc | apply Rd_drewN | apply Rd_drew)); exact HR1.out); (case s2 => (with_reducible repeat (first | apply Rd_alloc | apply Rd_drewN | apply Rd_drew)); exact HR3.out); rintro e w11 ⟨vt497, vrt497, rfl, ho0, ho1, hb⟩; have HR5 := A_ ho0; clear ho0 ho1; have n0_ := A_ (Rd_below (by (with_reducible repeat (first | apply Rd_alloc | apply Rd_drewN | apply Rd_drew)); exact HR2.out) hb); have n1_ := A_ (Rd_below (by (with_reducible repeat (first | apply Rd_alloc | apply Rd_drewN | apply Rd_drew)); exact HR3.out) hb); have n2_ := A_ (blk_below (g := gb) (o := .cells #[.bool false, .slice none 0 0, .slice none 0 0] 25 (0, 0)) (by (with_reducible repeat (first | apply bn_ | apply bd_ | apply ba_)); exact BK.out) hb); have n3_ := A_ (below_step hB_ hb); clear HR2 HR3 BK HB; have HR2 := n0_; have HR3 := n1_; have BK := n2_; have HB := n3_; clear n0_ n1_ n2_ n3_; clear hb; clear HR1; obtain ⟨A5_, c5_, eo5, _⟩ := HR5.out; subst eo5) | (go_at_call 50; (with_reducible refine (impl_natDiv.callsR k _ _ l2 t490 t503 t504 _ ?s1 ?s2 A7.out).mono ?_); (case s1 => (with_reducible repeat (first | apply Rd_alloc | apply Rd_drewN | apply Rd_drew)); exact HR2.out); (case s2 => (with_reducible repeat (first | apply Rd_alloc | apply Rd_drewN | apply Rd_drew)); exact HR3.out); rintro e w11 ⟨vt503, vrt503, rfl, ho0, ho1, hb⟩; have HR6 := A_ ho0; clear ho0 ho1; have n0_ := A_ (Rd_below (by (with_reducible repeat (first | apply Rd_alloc | apply Rd_drewN | apply Rd_drew)); exact HR3.out) hb); have n1_ := A_ (Rd_below (by (with_reducible repeat (first | apply Rd_alloc | apply Rd_drewN | apply Rd_drew)); exact HR5.out) hb); have n2_ := A_ (blk_below (g := gb) (o := .cells #[.bool false, .slice none 0 0, .slice none 0 0] 25 (0, 0)) (by (with_reducible repeat (first | apply bn_ | apply bd_ | apply ba_)); exact BK.out) hb); have n3_ := A_ (below_step hB_ hb); clear HR3 HR5 BK HB; have HR3 := n0_; have HR5 := n1_; have BK := n2_; have HB := n3_; clear n0_ n1_ n2_ n3_; clear hb; obtain ⟨A6_, c6_, eo6, _⟩ := HR6.out; subst eo6; have hcz_0 : w11.cell? ⟨gb, 0, none⟩ = some (.bool false) := (blk_cell BK.out 0).trans rfl; have hcz_1 : w11.cell? ⟨gb, 1, none⟩ = some (.slice none 0 0) := (blk_cell BK.out 1).trans rfl; have hcz_2 : w11.cell? ⟨gb, 2, none⟩ = some (.slice none 0 0) := (blk_cell BK.out 2).trans rfl; have hfz_0 := blk_frozen BK.out 0; have hfz_1 := blk_frozen BK.out 1; have hfz_2 := blk_frozen BK.out 2))
  refine bodyPost_ret (results_cell_row rfl _ _ gb 25 #[.bool false, .slice A5_ t497.length c5_, .slice A6_ t503.length c6_] (0, 0) _ rfl (by (with_reducible repeat (first | apply bn_ | apply bd_ | apply ba_)); refine blk_put (cs := #[.bool false, .slice A5_ t497.length c5_, .slice none 0 0]) ?_ 2 _ (by first | rfl | (simp [*]; done)); refine blk_put (cs := #[.bool false, .slice none 0 0, .slice none 0 0]) ?_ 1 _ (by first | rfl | (simp [*]; done)); refine blk_put (cs := #[.bool false, .slice none 0 0, .slice none 0 0]) ?_ 0 _ (by first | rfl | (simp [*]; done)); (with_reducible repeat (first | apply bn_ | apply bd_ | apply ba_)); exact BK.out) Tryd.underlying25 rfl (by kernel_rfl)) rfl ?_
  exact ⟨_, _, rfl, by (with_reducible repeat (first | apply Rd_alloc | apply Rd_drewN | apply Rd_drew)); refine Rd_box (t := 25) ?_ ?_ _ _ _; (with_reducible repeat (first | apply Rd_alloc | apply Rd_drewN | apply Rd_drew)); exact HR5.out; (with_reducible repeat (first | apply bn_ | apply bd_ | apply ba_)); exact BK.out, by (with_reducible repeat (first | apply Rd_alloc | apply Rd_drewN | apply Rd_drew)); refine Rd_box (t := 25) ?_ ?_ _ _ _; (with_reducible repeat (first | apply Rd_alloc | apply Rd_drewN | apply Rd_drew)); exact HR6.out; (with_reducible repeat (first | apply bn_ | apply bd_ | apply ba_)); exact BK.out, by repeat (first | (with_reducible first | exact HB.out | apply b1_ | apply b2_ | apply b3_ | refine bs_ ?_ GE.out) | exact HB.out)⟩

/-! ### impl_DecFrac: function 11 -/
theorem impl_natMul.callsR (k : Nat) (v0 v1 : Value) (l0 l1 r : List Int) (w : World) (h0 : Rd w v0 l0) (h1 : Rd w v1 l1) (h : impl_natMul.f k l0 l1 = some r) :
  Calls Tryd.prog 28 #[v0, v1] w fun e w' => ∃ u : Value, e = .returned u ∧ Rd w' u r ∧ Below w.heap.size w w' := by
 obtain ⟨A0, c0, rfl, hc0, hr0⟩ := h0
 obtain ⟨A1, c1, rfl, hc1, hr1⟩ := h1
 exact (impl_natMul.calls k A0 c0 l0 A1 c1 l1 r w hr0 hc0 hr1 hc1 h).mono fun e w' ⟨v, he, h, hb⟩ => ⟨v, he, Rd_V h, hb⟩
theorem impl_given.callsR (k : Nat) (b : Bool) (v0 v1 : Value) (l0 l1 : List Int) (r1 : Bool) (r2 r3 : List Int) (r4 : Bool) (w : World) (h0 : Rd w v0 l0) (h1 : Rd w v1 l1) (h : impl_given.f k b l0 l1 = some (r1, r2, r3, r4)) :
  Calls Tryd.prog 26 #[.agg #[.bool b, v0, v1]] w fun e w' => ∃ v1_ v2_ : Value, e = .returned (.tuple #[.agg #[.bool r1, v1_, v2_], .bool r4]) ∧ XR (Kd.int .i64) 3 w' w.heap.size (fun k_ => some k_ ≠ (v2_ : Value).ownBlock) v1_ r2 ∧ XR (Kd.int .i64) 3 w' w.heap.size (fun k_ => some k_ ≠ (v1_ : Value).ownBlock) v2_ r3 ∧ Below w.heap.size w w' := by
 obtain ⟨A0, c0, rfl, hc0, hr0⟩ := h0
 obtain ⟨A1, c1, rfl, hc1, hr1⟩ := h1
 exact impl_given.calls k b A0 c0 l0 A1 c1 l1 r1 r2 r3 r4 w hr0 hc0 hr1 hc1 h
def impl_DecFrac.g (k : Nat) (top : List Int) (p : Int) : Option (Bool × List Int × List Int × Bool) := if p ≥ 0 then (impl_ten.f k p).bind fun t3 => (impl_natMul.f k top t3).bind fun t4 => impl_given.f k false t4 [1] else (impl_ten.f k (wrap64 (-p))).bind fun t3 => (impl_lowest.f k false top t3).bind fun q => impl_given.f k q.1 q.2.1 q.2.2
def impl_DecFrac.f (k : Nat) (a0 : ByteArray) : Option (Bool × List Int × List Int × Bool) := (impl_DecOk.f k a0).bind fun t1 => if t1 = true then (impl_literal.f k a0).bind fun q => (if q.1.size + q.2.1.size ≤ 9223372036854775807 then (impl_natRead.f k (q.1 ++ q.2.1)).bind fun t2 => impl_DecFrac.g k t2 (wrap64 (q.2.2.1 - (q.2.1.size : Int))) else none) else some (false, [], [], false)
set_option maxHeartbeats 8000000 in
set_option maxRecDepth 100000 in
theorem impl_DecFrac.calls (k : Nat) (a0 : ByteArray) (r1 : Bool) (r2 : List Int) (r3 : List Int) (r4 : Bool) (w : World) (h : impl_DecFrac.f k a0 = some (r1, r2, r3, r4)) (HTAB_ : Aside0 (Go.Proofs.YtmdeolonjmjmgaaDoor.SLit.Tab w)) :
  Calls Tryd.prog 11 #[.string a0] w fun e w' => ∃ v1_ v2_ : Value, e = .returned (.tuple #[.agg #[.bool r1, v1_, v2_], .bool r4]) ∧ XR (Kd.int .i64) 3 w' w.heap.size (fun k_ => some k_ ≠ (v2_ : Value).ownBlock) v1_ r2 ∧ XR (Kd.int .i64) 3 w' w.heap.size (fun k_ => some k_ ≠ (v1_ : Value).ownBlock) v2_ r3 ∧ Below w.heap.size w w' := by
 have hu25 := Tryd.underlying25
 have HB := A_ (Below.refl w.heap.size w)
 unfold impl_DecFrac.f at h
 obtain ⟨t1, A10, H⟩ := Option.bind_eq_some_iff.mp h
 clear h
 have A1 := A_ A10
 clear A10
 cases t1 with
 | false =>
  rw [if_neg (by decide)] at H
  simp only [Option.some.injEq, Prod.mk.injEq] at H
  obtain ⟨rfl, rfl, rfl, rfl⟩ := H
  go_enter Tryd.func11, Tryd.ntmps11
  go_wp2_with (first | ((with_reducible refine gate_dst (N := 2) rfl ?_); (try (refine gate_guard (by rfl) ?_; dsimp only)); refine box_event ?hg (N := 2) ?hd (cs := #[.bool false, .slice none 0 0, .slice none 0 0]) (t := 25) ?hr ?_; (case hd => rfl); (case hg => rfl); (case hr => first | (go_simp; done) | (go_simp; rfl)); intro gb hg w8 hbox hb; have GE := A_ ((by rw [hg]; exact (below_size hB_)) : w.heap.size ≤ gb); have BK := A_ hbox; clear hbox hg; have n0_ := A_ (below_step hB_ hb); clear HB; have HB := n0_; clear n0_; clear hb) | (go_at_call 9; (with_reducible refine (impl_DecOk.calls k a0 _ _ A1.out ⟨Go.Proofs.YtmdeolonjmjmgaaDoor.SLit.Tab.below HTAB_.out hB_⟩).mono ?_); rintro e w1 ⟨rfl, hb⟩; have n0_ := A_ (blk_below (g := gb) (o := .cells #[.bool false, .slice none 0 0, .slice none 0 0] 25 (0, 0)) (by (with_reducible repeat (first | apply bn_ | apply bd_ | apply ba_)); exact BK.out) hb); have n1_ := A_ (below_step hB_ hb); clear BK HB; have BK := n0_; have HB := n1_; clear n0_ n1_; clear hb; have hcz_0 : w1.cell? ⟨gb, 0, none⟩ = some (.bool false) := (blk_cell BK.out 0).trans rfl; have hcz_1 : w1.cell? ⟨gb, 1, none⟩ = some (.slice none 0 0) := (blk_cell BK.out 1).trans rfl; have hcz_2 : w1.cell? ⟨gb, 2, none⟩ = some (.slice none 0 0) := (blk_cell BK.out 2).trans rfl; have hfz_0 := blk_frozen BK.out 0; have hfz_1 := blk_frozen BK.out 1; have hfz_2 := blk_frozen BK.out 2))
  refine bodyPost_ret (results_ct rfl _ _ gb 25 #[.bool false, .slice none 0 0, .slice none 0 0] (0, 0) _ rfl (by (with_reducible repeat (first | apply bn_ | apply bd_ | apply ba_)); refine blk_put (cs := #[.bool false, .slice none 0 0, .slice none 0 0]) ?_ 2 _ (by first | rfl | (simp [*]; done)); (with_reducible repeat (first | apply bn_ | apply bd_ | apply ba_)); refine blk_put (cs := #[.bool false, .slice none 0 0, .slice none 0 0]) ?_ 1 _ (by first | rfl | (simp [*]; done)); (with_reducible repeat (first | apply bn_ | apply bd_ | apply ba_)); refine blk_put (cs := #[.bool false, .slice none 0 0, .slice none 0 0]) ?_ 0 _ (by first | rfl | (simp [*]; done)); (with_reducible repeat (first | apply bn_ | apply bd_ | apply ba_)); exact BK.out) Tryd.underlying25 rfl (by kernel_rfl)) rfl ?_
  exact ⟨_, _, rfl, XR_nil _ _ _ _ _, XR_nil _ _ _ _ _, by repeat (first | (with_reducible first | exact HB.out | apply b1_ | apply b2_ | apply b3_ | refine bs_ ?_ GE.out) | exact HB.out)⟩
 | true =>
  rw [if_pos rfl] at H
  obtain ⟨⟨q1, q2, q3, q4⟩, A20, H⟩ := Option.bind_eq_some_iff.mp H
  have A2 := A_ A20
  clear A20
  dsimp only at H
  by_cases c5 : q1.size + q2.size ≤ 9223372036854775807
  ·rw [if_pos c5] at H
   obtain ⟨t2, A30, H⟩ := Option.bind_eq_some_iff.mp H
   have A3 := A_ A30
   clear A30
   unfold impl_DecFrac.g at H
   have c5b0 := eq_true c5
   have c5b1 : decide (q1.size + q2.size ≤ 9223372036854775807) = true := decide_eq_true c5
   have c5b2 : (9223372036854775807 < q1.size + q2.size) = False := eq_false (Nat.not_lt.2 c5)
   clear c5
   by_cases c7 : wrap64 (q3 - (q2.size : Int)) ≥ 0
   ·rw [if_pos c7] at H
    have c7b0 : decide (0 ≤ wrap64 (q3 - (q2.size : Int))) = true := decide_eq_true c7
    clear c7
    obtain ⟨t3, A40, H⟩ := Option.bind_eq_some_iff.mp H
    have A4 := A_ A40
    clear A40
    obtain ⟨t4, A50, H⟩ := Option.bind_eq_some_iff.mp H
    have A5 := A_ A50
    clear A50
    have A6 := A_ H
    clear H
    go_enter Tryd.func11, Tryd.ntmps11
    go_wp2_with (first | ((with_reducible refine gate_dst (N := 2) rfl ?_); (try (refine gate_guard (by rfl) ?_; dsimp only)); refine box_event ?hg (N := 2) ?hd (cs := #[.bool false, .slice none 0 0, .slice none 0 0]) (t := 25) ?hr ?_; (case hd => rfl); (case hg => rfl); (case hr => first | (go_simp; done) | (go_simp; rfl)); intro gb hg w8 hbox hb; have GE := A_ ((by rw [hg]; exact (below_size hB_)) : w.heap.size ≤ gb); have BK := A_ hbox; clear hbox hg; have n0_ := A_ (below_step hB_ hb); clear HB; have HB := n0_; clear n0_; clear hb) | (go_at_call 9; (with_reducible refine (impl_DecOk.calls k a0 _ _ A1.out ⟨Go.Proofs.YtmdeolonjmjmgaaDoor.SLit.Tab.below HTAB_.out hB_⟩).mono ?_); rintro e w1 ⟨rfl, hb⟩; have n0_ := A_ (blk_below (g := gb) (o := .cells #[.bool false, .slice none 0 0, .slice none 0 0] 25 (0, 0)) (by (with_reducible repeat (first | apply bn_ | apply bd_ | apply ba_)); exact BK.out) hb); have n1_ := A_ (below_step hB_ hb); clear BK HB; have BK := n0_; have HB := n1_; clear n0_ n1_; clear hb) | (go_at_call 17; (with_reducible refine (impl_literal.calls k a0 q1 q2 q3 q4 _ A2.out ⟨Go.Proofs.YtmdeolonjmjmgaaDoor.SLit.Tab.below HTAB_.out hB_⟩).mono ?_); rintro e w2 ⟨rfl, hb⟩; have n0_ := A_ (blk_below (g := gb) (o := .cells #[.bool false, .slice none 0 0, .slice none 0 0] 25 (0, 0)) (by (with_reducible repeat (first | apply bn_ | apply bd_ | apply ba_)); exact BK.out) hb); have n1_ := A_ (below_step hB_ hb); clear BK HB; have BK := n0_; have HB := n1_; clear n0_ n1_; clear hb) | (go_at_call 25; (with_reducible refine (impl_natRead.calls k (q1 ++ q2) t2 _ A3.out).mono ?_); rintro e w3 ⟨v3, rfl, ho, hb⟩; have HR1 := A_ (Rd_V ho); clear ho; have n0_ := A_ (blk_below (g := gb) (o := .cells #[.bool false, .slice none 0 0, .slice none 0 0] 25 (0, 0)) (by (with_reducible repeat (first | apply bn_ | apply bd_ | apply ba_)); exact BK.out) hb); have n1_ := A_ (below_step hB_ hb); clear BK HB; have BK := n0_; have HB := n1_; clear n0_ n1_; clear hb; obtain ⟨A_top, c_top, e_top, _⟩ := HR1.out; subst e_top) | (go_at_call 29; (with_reducible refine (impl_ten.calls k (wrap64 (q3 - (q2.size : Int))) t3 _ A4.out).mono ?_); rintro e w4 ⟨v4, rfl, ho, hb⟩; have HR2 := A_ (Rd_V ho); clear ho; have n0_ := A_ (Rd_below (by (with_reducible repeat (first | apply Rd_alloc | apply Rd_drewN | apply Rd_drew)); exact HR1.out) hb); have n1_ := A_ (blk_below (g := gb) (o := .cells #[.bool false, .slice none 0 0, .slice none 0 0] 25 (0, 0)) (by (with_reducible repeat (first | apply bn_ | apply bd_ | apply ba_)); exact BK.out) hb); have n2_ := A_ (below_step hB_ hb); clear HR1 BK HB; have HR1 := n0_; have BK := n1_; have HB := n2_; clear n0_ n1_ n2_; clear hb; obtain ⟨A_ten, c_ten, e_ten, _⟩ := HR2.out; subst e_ten) | (go_at_call 28; (with_reducible refine (impl_natMul.callsR k _ _ t2 t3 t4 _ ?s1 ?s2 A5.out).mono ?_); (case s1 => (with_reducible repeat (first | apply Rd_alloc | apply Rd_drewN | apply Rd_drew)); exact HR1.out); (case s2 => (with_reducible repeat (first | apply Rd_alloc | apply Rd_drewN | apply Rd_drew)); exact HR2.out); rintro e w5 ⟨v5, rfl, ho, hb⟩; have HR3 := A_ ho; clear ho HR1 HR2; have n0_ := A_ (blk_below (g := gb) (o := .cells #[.bool false, .slice none 0 0, .slice none 0 0] 25 (0, 0)) (by (with_reducible repeat (first | apply bn_ | apply bd_ | apply ba_)); exact BK.out) hb); have n1_ := A_ (below_step hB_ hb); clear BK HB; have BK := n0_; have HB := n1_; clear n0_ n1_; clear hb; obtain ⟨A_mul, c_mul, e_mul, _⟩ := HR3.out; subst e_mul) | (go_at_call 27; (with_reducible refine (impl_whole.callsR _ t4 _ ?s1).mono ?_); (case s1 => (with_reducible repeat (first | apply Rd_alloc | apply Rd_drewN | apply Rd_drew)); exact HR3.out); rintro e w6 ⟨v6, v7, rfl, ho1, ho2, hb⟩; have HF1 := A_ ho1; have HF2 := A_ ho2; clear ho1 ho2 HR3; have n0_ := A_ (blk_below (g := gb) (o := .cells #[.bool false, .slice none 0 0, .slice none 0 0] 25 (0, 0)) (by (with_reducible repeat (first | apply bn_ | apply bd_ | apply ba_)); exact BK.out) hb); have n1_ := A_ (below_step hB_ hb); clear BK HB; have BK := n0_; have HB := n1_; clear n0_ n1_; clear hb; obtain ⟨A_f1, c_f1, e_f1, _⟩ := HF1.out; subst e_f1; obtain ⟨A_f2, c_f2, e_f2, _⟩ := HF2.out; subst e_f2) | (go_at_call 26; (with_reducible refine (impl_given.callsR k false _ _ t4 [1] r1 r2 r3 r4 _ ?s1 ?s2 A6.out).mono ?_); (case s1 => (with_reducible repeat (first | apply Rd_alloc | apply Rd_drewN | apply Rd_drew)); exact HF1.out); (case s2 => (with_reducible repeat (first | apply Rd_alloc | apply Rd_drewN | apply Rd_drew)); exact HF2.out); rintro e w7 ⟨v8, v9, rfl, ho1, ho2, hb⟩; have HX1 := A_ (XR_lower ho1 (below_size hB_)); have HX2 := A_ (XR_lower ho2 (below_size hB_)); clear ho1 ho2 HF1 HF2; have n0_ := A_ (blk_below (g := gb) (o := .cells #[.bool false, .slice none 0 0, .slice none 0 0] 25 (0, 0)) (by (with_reducible repeat (first | apply bn_ | apply bd_ | apply ba_)); exact BK.out) hb); have n1_ := A_ (below_step hB_ hb); clear BK HB; have BK := n0_; have HB := n1_; clear n0_ n1_; clear hb; obtain ⟨A_g1, c_g1, e_g1⟩ := XR_slice HX1.out; subst e_g1; obtain ⟨A_g2, c_g2, e_g2⟩ := XR_slice HX2.out; subst e_g2; have hcz_0 : w7.cell? ⟨gb, 0, none⟩ = some (.bool false) := (blk_cell BK.out 0).trans rfl; have hcz_1 : w7.cell? ⟨gb, 1, none⟩ = some (.slice none 0 0) := (blk_cell BK.out 1).trans rfl; have hcz_2 : w7.cell? ⟨gb, 2, none⟩ = some (.slice none 0 0) := (blk_cell BK.out 2).trans rfl; have hfz_0 := blk_frozen BK.out 0; have hfz_1 := blk_frozen BK.out 1; have hfz_2 := blk_frozen BK.out 2))
    refine bodyPost_ret (results_ct rfl _ _ gb 25 #[.bool r1, .slice A_g1 r2.length c_g1, .slice A_g2 r3.length c_g2] (0, 0) _ rfl (by (with_reducible repeat (first | apply bn_ | apply bd_ | apply ba_)); refine blk_put (cs := #[.bool r1, .slice A_g1 r2.length c_g1, .slice none 0 0]) ?_ 2 _ (by first | rfl | (simp [*]; done)); (with_reducible repeat (first | apply bn_ | apply bd_ | apply ba_)); refine blk_put (cs := #[.bool r1, .slice none 0 0, .slice none 0 0]) ?_ 1 _ (by first | rfl | (simp [*]; done)); (with_reducible repeat (first | apply bn_ | apply bd_ | apply ba_)); refine blk_put (cs := #[.bool false, .slice none 0 0, .slice none 0 0]) ?_ 0 _ (by first | rfl | (simp [*]; done)); (with_reducible repeat (first | apply bn_ | apply bd_ | apply ba_)); exact BK.out) Tryd.underlying25 rfl (by kernel_rfl)) rfl ?_
    exact ⟨_, _, rfl, by (with_reducible repeat (first | apply XR_alloc | apply XR_drewN | apply XR_drew)); exact XR_mono (XR_far (p := ⟨gb, 2, none⟩) (XR_far (p := ⟨gb, 1, none⟩) (XR_far (p := ⟨gb, 0, none⟩) (XR_types (by (with_reducible repeat (first | apply XR_alloc | apply XR_drewN | apply XR_drew)); exact HX1.out) (by (with_reducible repeat (first | apply bn_ | apply bd_ | apply ba_)); exact BK.out) (by decide)) (fun _ hk => hk.2) _) (fun _ hk => hk.2) _) (fun _ hk => hk.2) _) (fun _ hk => hk.1), by (with_reducible repeat (first | apply XR_alloc | apply XR_drewN | apply XR_drew)); exact XR_mono (XR_far (p := ⟨gb, 2, none⟩) (XR_far (p := ⟨gb, 1, none⟩) (XR_far (p := ⟨gb, 0, none⟩) (XR_types (by (with_reducible repeat (first | apply XR_alloc | apply XR_drewN | apply XR_drew)); exact HX2.out) (by (with_reducible repeat (first | apply bn_ | apply bd_ | apply ba_)); exact BK.out) (by decide)) (fun _ hk => hk.2) _) (fun _ hk => hk.2) _) (fun _ hk => hk.2) _) (fun _ hk => hk.1), by repeat (first | (with_reducible first | exact HB.out | apply b1_ | apply b2_ | apply b3_ | refine bs_ ?_ GE.out) | exact HB.out)⟩
   ·rw [if_neg c7] at H
    have c7b0 : decide (0 ≤ wrap64 (q3 - (q2.size : Int))) = false := decide_eq_false c7
    clear c7
    obtain ⟨t3, A40, H⟩ := Option.bind_eq_some_iff.mp H
    have A4 := A_ A40
    clear A40
    obtain ⟨⟨p1, p2, p3⟩, A50, H⟩ := Option.bind_eq_some_iff.mp H
    have A5 := A_ A50
    clear A50
    have A6 := A_ H
    clear H
    go_enter Tryd.func11, Tryd.ntmps11
    go_wp2_with (first | ((with_reducible refine gate_dst (N := 2) rfl ?_); (try (refine gate_guard (by rfl) ?_; dsimp only)); refine box_event ?hg (N := 2) ?hd (cs := #[.bool false, .slice none 0 0, .slice none 0 0]) (t := 25) ?hr ?_; (case hd => rfl); (case hg => rfl); (case hr => first | (go_simp; done) | (go_simp; rfl)); intro gb hg w8 hbox hb; have GE := A_ ((by rw [hg]; exact (below_size hB_)) : w.heap.size ≤ gb); have BK := A_ hbox; clear hbox hg; have n0_ := A_ (below_step hB_ hb); clear HB; have HB := n0_; clear n0_; clear hb) | (go_at_call 9; (with_reducible refine (impl_DecOk.calls k a0 _ _ A1.out ⟨Go.Proofs.YtmdeolonjmjmgaaDoor.SLit.Tab.below HTAB_.out hB_⟩).mono ?_); rintro e w1 ⟨rfl, hb⟩; have n0_ := A_ (blk_below (g := gb) (o := .cells #[.bool false, .slice none 0 0, .slice none 0 0] 25 (0, 0)) (by (with_reducible repeat (first | apply bn_ | apply bd_ | apply ba_)); exact BK.out) hb); have n1_ := A_ (below_step hB_ hb); clear BK HB; have BK := n0_; have HB := n1_; clear n0_ n1_; clear hb) | (go_at_call 17; (with_reducible refine (impl_literal.calls k a0 q1 q2 q3 q4 _ A2.out ⟨Go.Proofs.YtmdeolonjmjmgaaDoor.SLit.Tab.below HTAB_.out hB_⟩).mono ?_); rintro e w2 ⟨rfl, hb⟩; have n0_ := A_ (blk_below (g := gb) (o := .cells #[.bool false, .slice none 0 0, .slice none 0 0] 25 (0, 0)) (by (with_reducible repeat (first | apply bn_ | apply bd_ | apply ba_)); exact BK.out) hb); have n1_ := A_ (below_step hB_ hb); clear BK HB; have BK := n0_; have HB := n1_; clear n0_ n1_; clear hb) | (go_at_call 25; (with_reducible refine (impl_natRead.calls k (q1 ++ q2) t2 _ A3.out).mono ?_); rintro e w3 ⟨v3, rfl, ho, hb⟩; have HR1 := A_ (Rd_V ho); clear ho; have n0_ := A_ (blk_below (g := gb) (o := .cells #[.bool false, .slice none 0 0, .slice none 0 0] 25 (0, 0)) (by (with_reducible repeat (first | apply bn_ | apply bd_ | apply ba_)); exact BK.out) hb); have n1_ := A_ (below_step hB_ hb); clear BK HB; have BK := n0_; have HB := n1_; clear n0_ n1_; clear hb; obtain ⟨A_top, c_top, e_top, _⟩ := HR1.out; subst e_top) | (go_at_call 29; (with_reducible refine (impl_ten.calls k (wrap64 (-(wrap64 (q3 - (q2.size : Int))))) t3 _ A4.out).mono ?_); rintro e w4 ⟨v4, rfl, ho, hb⟩; have HR2 := A_ (Rd_V ho); clear ho; have n0_ := A_ (Rd_below (by (with_reducible repeat (first | apply Rd_alloc | apply Rd_drewN | apply Rd_drew)); exact HR1.out) hb); have n1_ := A_ (blk_below (g := gb) (o := .cells #[.bool false, .slice none 0 0, .slice none 0 0] 25 (0, 0)) (by (with_reducible repeat (first | apply bn_ | apply bd_ | apply ba_)); exact BK.out) hb); have n2_ := A_ (below_step hB_ hb); clear HR1 BK HB; have HR1 := n0_; have BK := n1_; have HB := n2_; clear n0_ n1_ n2_; clear hb; obtain ⟨A_ten, c_ten, e_ten, _⟩ := HR2.out; subst e_ten) | (go_at_call 30; (with_reducible refine (impl_lowest.callsR k _ _ t2 t3 p1 p2 p3 _ ?s1 ?s2 A5.out).mono ?_); (case s1 => (with_reducible repeat (first | apply Rd_alloc | apply Rd_drewN | apply Rd_drew)); exact HR1.out); (case s2 => (with_reducible repeat (first | apply Rd_alloc | apply Rd_drewN | apply Rd_drew)); exact HR2.out); rintro e w6 ⟨v6, v7, rfl, ho1, ho2, hb⟩; have HF1 := A_ ho1; have HF2 := A_ ho2; clear ho1 ho2 HR1 HR2; have n0_ := A_ (blk_below (g := gb) (o := .cells #[.bool false, .slice none 0 0, .slice none 0 0] 25 (0, 0)) (by (with_reducible repeat (first | apply bn_ | apply bd_ | apply ba_)); exact BK.out) hb); have n1_ := A_ (below_step hB_ hb); clear BK HB; have BK := n0_; have HB := n1_; clear n0_ n1_; clear hb; obtain ⟨A_f1, c_f1, e_f1, _⟩ := HF1.out; subst e_f1; obtain ⟨A_f2, c_f2, e_f2, _⟩ := HF2.out; subst e_f2) | (go_at_call 26; (with_reducible refine (impl_given.callsR k p1 _ _ p2 p3 r1 r2 r3 r4 _ ?s1 ?s2 A6.out).mono ?_); (case s1 => (with_reducible repeat (first | apply Rd_alloc | apply Rd_drewN | apply Rd_drew)); exact HF1.out); (case s2 => (with_reducible repeat (first | apply Rd_alloc | apply Rd_drewN | apply Rd_drew)); exact HF2.out); rintro e w7 ⟨v8, v9, rfl, ho1, ho2, hb⟩; have HX1 := A_ (XR_lower ho1 (below_size hB_)); have HX2 := A_ (XR_lower ho2 (below_size hB_)); clear ho1 ho2 HF1 HF2; have n0_ := A_ (blk_below (g := gb) (o := .cells #[.bool false, .slice none 0 0, .slice none 0 0] 25 (0, 0)) (by (with_reducible repeat (first | apply bn_ | apply bd_ | apply ba_)); exact BK.out) hb); have n1_ := A_ (below_step hB_ hb); clear BK HB; have BK := n0_; have HB := n1_; clear n0_ n1_; clear hb; obtain ⟨A_g1, c_g1, e_g1⟩ := XR_slice HX1.out; subst e_g1; obtain ⟨A_g2, c_g2, e_g2⟩ := XR_slice HX2.out; subst e_g2; have hcz_0 : w7.cell? ⟨gb, 0, none⟩ = some (.bool false) := (blk_cell BK.out 0).trans rfl; have hcz_1 : w7.cell? ⟨gb, 1, none⟩ = some (.slice none 0 0) := (blk_cell BK.out 1).trans rfl; have hcz_2 : w7.cell? ⟨gb, 2, none⟩ = some (.slice none 0 0) := (blk_cell BK.out 2).trans rfl; have hfz_0 := blk_frozen BK.out 0; have hfz_1 := blk_frozen BK.out 1; have hfz_2 := blk_frozen BK.out 2))
    refine bodyPost_ret (results_ct rfl _ _ gb 25 #[.bool r1, .slice A_g1 r2.length c_g1, .slice A_g2 r3.length c_g2] (0, 0) _ rfl (by (with_reducible repeat (first | apply bn_ | apply bd_ | apply ba_)); refine blk_put (cs := #[.bool r1, .slice A_g1 r2.length c_g1, .slice none 0 0]) ?_ 2 _ (by first | rfl | (simp [*]; done)); (with_reducible repeat (first | apply bn_ | apply bd_ | apply ba_)); refine blk_put (cs := #[.bool r1, .slice none 0 0, .slice none 0 0]) ?_ 1 _ (by first | rfl | (simp [*]; done)); (with_reducible repeat (first | apply bn_ | apply bd_ | apply ba_)); refine blk_put (cs := #[.bool false, .slice none 0 0, .slice none 0 0]) ?_ 0 _ (by first | rfl | (simp [*]; done)); (with_reducible repeat (first | apply bn_ | apply bd_ | apply ba_)); exact BK.out) Tryd.underlying25 rfl (by kernel_rfl)) rfl ?_
    exact ⟨_, _, rfl, by (with_reducible repeat (first | apply XR_alloc | apply XR_drewN | apply XR_drew)); exact XR_mono (XR_far (p := ⟨gb, 2, none⟩) (XR_far (p := ⟨gb, 1, none⟩) (XR_far (p := ⟨gb, 0, none⟩) (XR_types (by (with_reducible repeat (first | apply XR_alloc | apply XR_drewN | apply XR_drew)); exact HX1.out) (by (with_reducible repeat (first | apply bn_ | apply bd_ | apply ba_)); exact BK.out) (by decide)) (fun _ hk => hk.2) _) (fun _ hk => hk.2) _) (fun _ hk => hk.2) _) (fun _ hk => hk.1), by (with_reducible repeat (first | apply XR_alloc | apply XR_drewN | apply XR_drew)); exact XR_mono (XR_far (p := ⟨gb, 2, none⟩) (XR_far (p := ⟨gb, 1, none⟩) (XR_far (p := ⟨gb, 0, none⟩) (XR_types (by (with_reducible repeat (first | apply XR_alloc | apply XR_drewN | apply XR_drew)); exact HX2.out) (by (with_reducible repeat (first | apply bn_ | apply bd_ | apply ba_)); exact BK.out) (by decide)) (fun _ hk => hk.2) _) (fun _ hk => hk.2) _) (fun _ hk => hk.2) _) (fun _ hk => hk.1), by repeat (first | (with_reducible first | exact HB.out | apply b1_ | apply b2_ | apply b3_ | refine bs_ ?_ GE.out) | exact HB.out)⟩
  ·rw [if_neg c5] at H
   cases H

/-! ### laws_eqIntS: function 31 -/
def laws_eqIntS.l0 : Nat → List Int → List Int → Int → Option (Bool)
 | 0, _, _, _ => none
 | k + 1, x0, x1, x5 => if x5 < (x0.length : Int) then (if 0 ≤ x5 then (if x5 < (x1.length : Int) then (if (rd x0 x5) = (rd x1 x5) then (laws_eqIntS.l0 k x0 x1 (wrap64 (x5 + 1))) else (some false)) else (none)) else (none)) else (some true)
def laws_eqIntS.f (k : Nat) (l0 : List Int) (l1 : List Int) : Option (Bool) := if (l0.length : Int) = (l1.length : Int) then (laws_eqIntS.l0 k l0 l1 0) else (some false)
set_option maxHeartbeats 8000000 in
set_option maxRecDepth 100000 in
theorem laws_eqIntS.calls (k : Nat) (A0 : Option Addr) (c0 : Nat) (l0 : List Int) (A1 : Option Addr) (c1 : Nat) (l1 : List Int) (r : Bool) (w : World) (hr0 : Kd.C (Kd.int .i64) w A0 l0.length l0) (hc0 : l0.length ≤ c0) (hr1 : Kd.C (Kd.int .i64) w A1 l1.length l1) (hc1 : l1.length ≤ c1) (h : laws_eqIntS.f k l0 l1 = some r) :
  Calls Tryd.prog 31 #[.slice A0 l0.length c0, .slice A1 l1.length c1] w fun e w' => e = .returned (.bool r) ∧ Drawn0 w w' := by
 have HR0 := A_ hr0
 have HC0 := A_ hc0
 clear hr0 hc0
 have HR1 := A_ hr1
 have HC1 := A_ hc1
 clear hr1 hc1
 have H : (if (l0.length : Int) = (l1.length : Int) then (laws_eqIntS.l0 k l0 l1 0) else (some false)) = some r := h
 clear h
 by_cases c3 : (l0.length : Int) = (l1.length : Int)
 ·rw [if_pos c3] at H
  have c3b0 : ((l0.length : Int) == (l1.length : Int)) = true := beq_iff_eq.mpr c3
  have c3b1 : ((l0.length : Int) != (l1.length : Int)) = false := bne_eq_false_iff_eq.mpr c3
  have c3b2 : (l0.length == l1.length) = true := by first | simpa using c3 | (simp at c3 ⊢; omega)
  clear c3
  have H' := A_ H
  clear H
  go_enter Tryd.func31, Tryd.ntmps31
  go_wp2
  repeat (go_quiet (fail); try go_wp2)
  go_loopg [5] k (fun kq v5 w' => ∃ (x5_1 : Int), v5 = .int .i64 x5_1 ∧ Aside0 (laws_eqIntS.l0 kq l0 l1 x5_1 = some r) ∧ Aside0 (kq ≤ k) ∧ Drawn0 w w')
  case atStart => exact ⟨(0), (by first | rfl | (simp; done) | (simp [*]; done)), H', ⟨Nat.le_refl _⟩, by repeat (first | exact Drawn0.refl _ | apply Drawn0.step)⟩
  case round =>
   clear H'
   (try clear c1); (try clear p2); (try clear c3); (try clear c3b0); (try clear c3b1); (try clear c3b2)
   obtain ⟨x5_1, rfl, HA, HK1, ⟨m1, rfl⟩⟩ := hrel
   cases gk with
   | zero => exact absurd HA.out (by simp [laws_eqIntS.l0])
   | succ k1 =>
    have H := HA.out
    clear HA
    simp only [laws_eqIntS.l0] at H
    by_cases c4 : x5_1 < (l0.length : Int)
    ·rw [if_pos c4] at H
     have c4b0 : decide (x5_1 < (l0.length : Int)) = true := decide_eq_true c4
     clear c4
     by_cases c5 : 0 ≤ x5_1
     ·rw [if_pos c5] at H
      have c5b0 : decide (0 ≤ x5_1) = true := decide_eq_true c5
      clear c5
      by_cases c6 : x5_1 < (l1.length : Int)
      ·rw [if_pos c6] at H
       have c6b0 : decide (x5_1 < (l1.length : Int)) = true := decide_eq_true c6
       clear c6
       by_cases c7 : (rd l0 x5_1) = (rd l1 x5_1)
       ·rw [if_pos c7] at H
        have c7b0 : ((rd l0 x5_1) == (rd l1 x5_1)) = true := beq_iff_eq.mpr c7
        have c7b1 : ((rd l0 x5_1) != (rd l1 x5_1)) = false := bne_eq_false_iff_eq.mpr c7
        clear c7
        have H' := A_ H
        clear H
        have p476 : 0 ≤ (x5_1 : Int) := of_decide_eq_true as_
        have q476 : x5_1 < (l0.length : Int) := of_decide_eq_true as_
        obtain ⟨ad476, e476, hx476_0⟩ := Kd.at_int HR0.out x5_1 p476 q476
        cases e476
        replace p476 := eq_true p476
        replace q476 := eq_true q476
        have p477 : 0 ≤ (x5_1 : Int) := of_decide_eq_true as_
        have q477 : x5_1 < (l1.length : Int) := of_decide_eq_true as_
        obtain ⟨ad477, e477, hx477_0⟩ := Kd.at_int HR1.out x5_1 p477 q477
        cases e477
        replace p477 := eq_true p477
        replace q477 := eq_true q477
        go_wp2
        repeat (go_quiet (fail); try go_wp2)
        go_roundg k1
        case measure => have := HK1.out; omega
        case rel => exact ⟨(wrap64 (x5_1 + 1)), (by first | rfl | (simp; done) | (simp [*]; done)), H', ⟨by have := HK1.out; omega⟩, by repeat (first | exact Drawn0.refl _ | apply Drawn0.step)⟩
       ·rw [if_neg c7] at H
        have c7b0 : ((rd l0 x5_1) == (rd l1 x5_1)) = false := beq_eq_false_iff_ne.mpr c7
        have c7b1 : ((rd l0 x5_1) != (rd l1 x5_1)) = true := bne_iff_ne.mpr c7
        obtain rfl := Option.some.inj H
        have p476 : 0 ≤ (x5_1 : Int) := of_decide_eq_true as_
        have q476 : x5_1 < (l0.length : Int) := of_decide_eq_true as_
        obtain ⟨ad476, e476, hx476_0⟩ := Kd.at_int HR0.out x5_1 p476 q476
        cases e476
        replace p476 := eq_true p476
        replace q476 := eq_true q476
        have p477 : 0 ≤ (x5_1 : Int) := of_decide_eq_true as_
        have q477 : x5_1 < (l1.length : Int) := of_decide_eq_true as_
        obtain ⟨ad477, e477, hx477_0⟩ := Kd.at_int HR1.out x5_1 p477 q477
        cases e477
        replace p477 := eq_true p477
        replace q477 := eq_true q477
        go_wp2
        repeat (go_quiet (fail); try go_wp2)
        go_ret
        exact ⟨by first | rfl | (simp; done) | (simp [*]; done), by repeat (first | exact Drawn0.refl _ | apply Drawn0.step)⟩
      ·rw [if_neg c6] at H
       exact absurd H (by simp)
     ·rw [if_neg c5] at H
      exact absurd H (by simp)
    ·rw [if_neg c4] at H
     have c4b0 : decide (x5_1 < (l0.length : Int)) = false := decide_eq_false c4
     clear c4
     obtain rfl := Option.some.inj H
     go_wp2
     repeat (go_quiet (fail); try go_wp2)
     go_ret
     exact ⟨by first | rfl | (simp; done) | (simp [*]; done), by repeat (first | exact Drawn0.refl _ | apply Drawn0.step)⟩
 ·rw [if_neg c3] at H
  have c3b0 : ((l0.length : Int) == (l1.length : Int)) = false := beq_eq_false_iff_ne.mpr c3
  have c3b1 : ((l0.length : Int) != (l1.length : Int)) = true := bne_iff_ne.mpr c3
  have c3b2 : (l0.length == l1.length) = false := by first | simpa using c3 | (simp at c3 ⊢; omega)
  obtain rfl := Option.some.inj H
  go_enter Tryd.func31, Tryd.ntmps31
  go_wp2
  repeat (go_quiet (fail); try go_wp2)
  go_ret
  exact ⟨by first | rfl | (simp; done) | (simp [*]; done), by repeat (first | exact Drawn0.refl _ | apply Drawn0.step)⟩

/-! ### laws_markIntS: function 32 -/
def laws_markIntS.l0 : Nat → List Int → Int → Int → Option (Int × List Int)
 | 0, _, _, _ => none
 | k + 1, x0, x1, x5 => if x5 < (x0.length : Int) then (if 0 ≤ x5 then (laws_markIntS.l0 k (x0.set (x5 : Int).toNat x1) (wrap64 (x1 + 1)) (wrap64 (x5 + 1))) else (none)) else (some (x1, x0))
def laws_markIntS.f (k : Nat) (l0 : List Int) (a1 : Int) : Option (Int × List Int) := laws_markIntS.l0 k l0 a1 0
set_option maxHeartbeats 8000000 in
set_option maxRecDepth 100000 in
theorem laws_markIntS.calls (k : Nat) (P0_ : Nat → Prop) (u9000_ : Value) (l0 : List Int) (a1 : Int) (r1 : Int) (r2 : List Int) (w0 w : World) (hB : Below w0.heap.size w0 w) (ho0 : XR (Kd.int .i64) 3 w w0.heap.size P0_ u9000_ l0) (h : laws_markIntS.f k l0 a1 = some (r1, r2)) :
  Calls Tryd.prog 32 #[u9000_, .int .i64 a1] w fun e w' => e = .returned (.int .i64 r1) ∧ XR (Kd.int .i64) 3 w' w0.heap.size (fun k_ => (P0_ k_ ∨ w.heap.size ≤ k_)) u9000_ r2 ∧ Below w0.heap.size w0 w' ∧ Kept w w' (fun k_ => P0_ k_) := by
 have HO0 := A_ (show XR (Kd.int .i64) 3 w w0.heap.size (fun k_ => (P0_ k_ ∨ w.heap.size ≤ k_)) u9000_ l0 from XR_mono ho0 (fun k_ hk => (.inl hk)))
 have HK := A_ (Kept.refl w (fun k_ => P0_ k_))
 have HW0 := A_ hB.size
 have HB := A_ hB
 clear hB
 have H : (laws_markIntS.l0 k l0 a1 0) = some (r1, r2) := h
 clear h
 have H' := A_ H
 clear H
 go_enter Tryd.func32, Tryd.ntmps32
 go_wp2
 go_loopg [1, 5] k (fun kq v1 v5 w' => ∃ (x0_1 : List Int) (x1_1 : Int) (x5_1 : Int), v1 = .int .i64 x1_1 ∧ v5 = .int .i64 x5_1 ∧ Aside0 (laws_markIntS.l0 kq x0_1 x1_1 x5_1 = some (r1, r2)) ∧ Aside0 (kq ≤ k) ∧ Aside0 (XR (Kd.int .i64) 3 w' w0.heap.size (fun k_ => (P0_ k_ ∨ w.heap.size ≤ k_)) u9000_ x0_1) ∧ Aside0 (Kept w w' (fun k_ => P0_ k_)) ∧ Aside0 (Below w0.heap.size w0 w'))
 case atStart => exact ⟨(l0), (a1), (0), (by first | rfl | (simp; done) | (simp [*]; done)), (by first | rfl | (simp; done) | (simp [*]; done)), H', ⟨Nat.le_refl _⟩, ⟨by (with_reducible repeat (first | apply XR_alloc | apply XR_drewN | apply XR_drew)); exact HO0.out⟩, ⟨by repeat (first | (with_reducible first | exact HK.out | apply Kept.alloc | apply Kept.drewN | apply Kept.drew) | exact HK.out)⟩, ⟨hB_⟩⟩
 case round =>
  clear H'
  (try clear p2)
  obtain ⟨x0_1, x1_1, x5_1, rfl, rfl, HA, HK1, HO_0, HK, HB⟩ := hrel
  cases gk with
  | zero => exact absurd HA.out (by simp [laws_markIntS.l0])
  | succ k1 =>
   have H := HA.out
   clear HA
   simp only [laws_markIntS.l0] at H
   by_cases c3 : x5_1 < (x0_1.length : Int)
   ·rw [if_pos c3] at H
    have c3b0 : decide (x5_1 < (x0_1.length : Int)) = true := decide_eq_true c3
    clear c3
    by_cases c4 : 0 ≤ x5_1
    ·rw [if_pos c4] at H
     have c4b0 : decide (0 ≤ x5_1) = true := decide_eq_true c4
     clear c4
     obtain ⟨y482, hy482⟩ : ∃ y_ : List Int, y_ = (x0_1.set (x5_1 : Int).toNat x1_1) := ⟨_, rfl⟩
     replace H : (laws_markIntS.l0 k1 y482 (wrap64 (x1_1 + 1)) (wrap64 (x5_1 + 1))) = some (r1, r2) := by first | (rw [hy482]; with_reducible exact H) | (have H2_ := (Option.bind_some _ _).symm.trans H; rw [hy482]; with_reducible exact H2_) | (have H2_ := (Option.bind_some _ _).symm.trans H; with_reducible exact H2_) | with_reducible exact H | (rw [hy482]; exact H) | exact H
     have Ny482 := A_ hy482
     clear hy482
     have H' := A_ H
     clear H
     obtain ⟨Ao6, co6, eo6⟩ := XR_slice HO_0.out
     subst eo6
     have p5 : 0 ≤ (x5_1 : Int) := of_decide_eq_true as_
     have q5 : (x5_1 : Int) < ((x0_1.length : Int) : Int) := of_decide_eq_true as_
     obtain ⟨go5, co5, eo5, gb5, gl5, cl5, HG5⟩ := XR_form HO_0.out (by omega)
     (first | cases eo5 | (injection eo5 with ea_ en_ ec_; (first | subst ea_ | (injection ea_ with ea_; subst ea_)); subst ec_; clear en_))
     have GB5 := A_ gb5
     have GG5 := A_ HG5
     clear gb5 gl5 HG5
     have HMgo5 := A_ (show (P0_ go5 ∨ w.heap.size ≤ go5) from (HO_0.out.1 _ rfl))
     obtain ⟨hx5_0, hf5_0⟩ := XR_celln 0 HO_0.out (x5_1 : Int) p5 q5
     replace p5 := eq_true p5
     replace q5 := eq_true q5
     have HP7 := XR_putg HO_0.out (x5_1 : Int) x1_1
     go_wp2_with (first | ((with_reducible refine gate_store (t := 3) (p := 15) rfl ?_); refine store_event (t := 3) (p := 15) (v := ?vo_w8) (w1 := (wr.setCell ⟨go5, (x5_1 : Int).toNat, none⟩ (.int .i64 x1_1))) ?hg ?ho ?hn ?hr ?_; (case ho => rfl); (case hg => rfl); (case hn => rfl); (case hr => first | (go_simp; done) | (go_simp; rfl)); intro w8 hw; have hg : wr.grownBy w8 (some go5) := (by rw [hw]; exact HP7.2); have hp_ : XR (Kd.int .i64) 3 w8 w0.heap.size (fun k_ => (P0_ k_ ∨ w.heap.size ≤ k_)) (.slice (some ⟨go5, 0, none⟩) x0_1.length co6) y482 := (by rw [hw, Ny482.out]; first | exact HP7.1 | exact Kd.R_mono HP7.1 (fun _ hk => (by first | (refine ⟨?_, ?_, ?_, ?_⟩ <;> first | exact hk.1 | exact hk.2.1 | exact hk.2.2.1 | exact hk.2.2.2 | exact hk.1.1 | exact hk.1.2) | (refine ⟨?_, ?_, ?_⟩ <;> first | exact hk.1 | exact hk.2.1 | exact hk.2.2 | exact hk.1.1 | exact hk.1.2)))); clear HP7; have n0_ := A_ (hp_); have n1_ := A_ ((by rw [hw]; exact below_set (HB.out) GB5.out : Below w0.heap.size w0 w8)); have n2_ := A_ (Kept.of_grown (S := (fun k_ => P0_ k_)) hg (by repeat (first | (with_reducible first | exact HK.out | apply Kept.alloc | apply Kept.drewN | apply Kept.drew) | exact HK.out)) (fun k_ e_ => (HO_0.out.1 k_ e_))); clear HO_0 HB HK; have HO_0 := n0_; have HB := n1_; have HK := n2_; clear n0_ n1_ n2_; clear hg hw hp_))
     go_roundg k1
     case measure => have := HK1.out; omega
     case rel => exact ⟨(y482), (wrap64 (x1_1 + 1)), (wrap64 (x5_1 + 1)), (by first | rfl | (simp; done) | (simp [*]; done)), (by first | rfl | (simp; done) | (simp [*]; done)), H', ⟨by have := HK1.out; omega⟩, ⟨by (with_reducible repeat (first | apply XR_alloc | apply XR_drewN | apply XR_drew)); exact HO_0.out⟩, ⟨by repeat (first | (with_reducible first | exact HK.out | apply Kept.alloc | apply Kept.drewN | apply Kept.drew) | exact HK.out)⟩, ⟨hB_⟩⟩
    ·rw [if_neg c4] at H
     exact absurd H (by simp)
   ·rw [if_neg c3] at H
    have c3b0 : decide (x5_1 < (x0_1.length : Int)) = false := decide_eq_false c3
    clear c3
    simp only [Option.some.injEq, Prod.mk.injEq] at H
    obtain ⟨rfl, rfl⟩ := H
    obtain ⟨Ao9, co9, eo9⟩ := XR_slice HO_0.out
    subst eo9
    go_wp2
    go_ret
    exact ⟨by first | rfl | (simp [errW_none, errW_some] <;> rfl) | (simp [*, errW_none, errW_some] <;> rfl), by (with_reducible repeat (first | apply XR_alloc | apply XR_drewN | apply XR_drew)); exact HO_0.out, hB_, by repeat (first | (with_reducible first | exact HK.out | apply Kept.alloc | apply Kept.drewN | apply Kept.drew) | exact HK.out)⟩

/-! ### laws_heldIntS: function 33 -/
def laws_heldIntS.l0 : Nat → List Int → Int → Int → Option (Int)
 | 0, _, _, _ => none
 | k + 1, x0, x1, x5 => if x5 < (x0.length : Int) then (if 0 ≤ x5 then (if (rd x0 x5) = x1 then (laws_heldIntS.l0 k x0 (wrap64 (x1 + 1)) (wrap64 (x5 + 1))) else (some (-1))) else (none)) else (some x1)
def laws_heldIntS.f (k : Nat) (l0 : List Int) (a1 : Int) : Option (Int) := laws_heldIntS.l0 k l0 a1 0
set_option maxHeartbeats 8000000 in
set_option maxRecDepth 100000 in
theorem laws_heldIntS.calls (k : Nat) (A0 : Option Addr) (c0 : Nat) (l0 : List Int) (a1 : Int) (r : Int) (w : World) (hr0 : Kd.C (Kd.int .i64) w A0 l0.length l0) (hc0 : l0.length ≤ c0) (h : laws_heldIntS.f k l0 a1 = some r) :
  Calls Tryd.prog 33 #[.slice A0 l0.length c0, .int .i64 a1] w fun e w' => e = .returned (.int .i64 r) ∧ Drawn0 w w' := by
 have HR0 := A_ hr0
 have HC0 := A_ hc0
 clear hr0 hc0
 have H : (laws_heldIntS.l0 k l0 a1 0) = some r := h
 clear h
 have H' := A_ H
 clear H
 go_enter Tryd.func33, Tryd.ntmps33
 go_wp2
 go_loopg [1, 5] k (fun kq v1 v5 w' => ∃ (x1_1 : Int) (x5_1 : Int), v1 = .int .i64 x1_1 ∧ v5 = .int .i64 x5_1 ∧ Aside0 (laws_heldIntS.l0 kq l0 x1_1 x5_1 = some r) ∧ Aside0 (kq ≤ k) ∧ Drawn0 w w')
 case atStart => exact ⟨(a1), (0), (by first | rfl | (simp; done) | (simp [*]; done)), (by first | rfl | (simp; done) | (simp [*]; done)), H', ⟨Nat.le_refl _⟩, by repeat (first | exact Drawn0.refl _ | apply Drawn0.step)⟩
 case round =>
  clear H'
  (try clear p2)
  obtain ⟨x1_1, x5_1, rfl, rfl, HA, HK1, ⟨m1, rfl⟩⟩ := hrel
  cases gk with
  | zero => exact absurd HA.out (by simp [laws_heldIntS.l0])
  | succ k1 =>
   have H := HA.out
   clear HA
   simp only [laws_heldIntS.l0] at H
   by_cases c3 : x5_1 < (l0.length : Int)
   ·rw [if_pos c3] at H
    have c3b0 : decide (x5_1 < (l0.length : Int)) = true := decide_eq_true c3
    clear c3
    by_cases c4 : 0 ≤ x5_1
    ·rw [if_pos c4] at H
     have c4b0 : decide (0 ≤ x5_1) = true := decide_eq_true c4
     clear c4
     by_cases c5 : (rd l0 x5_1) = x1_1
     ·rw [if_pos c5] at H
      have c5b0 : ((rd l0 x5_1) == x1_1) = true := beq_iff_eq.mpr c5
      have c5b1 : ((rd l0 x5_1) != x1_1) = false := bne_eq_false_iff_eq.mpr c5
      clear c5
      have H' := A_ H
      clear H
      have p488 : 0 ≤ (x5_1 : Int) := of_decide_eq_true as_
      have q488 : x5_1 < (l0.length : Int) := of_decide_eq_true as_
      obtain ⟨ad488, e488, hx488_0⟩ := Kd.at_int HR0.out x5_1 p488 q488
      cases e488
      replace p488 := eq_true p488
      replace q488 := eq_true q488
      go_wp2
      go_roundg k1
      case measure => have := HK1.out; omega
      case rel => exact ⟨(wrap64 (x1_1 + 1)), (wrap64 (x5_1 + 1)), (by first | rfl | (simp; done) | (simp [*]; done)), (by first | rfl | (simp; done) | (simp [*]; done)), H', ⟨by have := HK1.out; omega⟩, by repeat (first | exact Drawn0.refl _ | apply Drawn0.step)⟩
     ·rw [if_neg c5] at H
      have c5b0 : ((rd l0 x5_1) == x1_1) = false := beq_eq_false_iff_ne.mpr c5
      have c5b1 : ((rd l0 x5_1) != x1_1) = true := bne_iff_ne.mpr c5
      obtain rfl := Option.some.inj H
      have p488 : 0 ≤ (x5_1 : Int) := of_decide_eq_true as_
      have q488 : x5_1 < (l0.length : Int) := of_decide_eq_true as_
      obtain ⟨ad488, e488, hx488_0⟩ := Kd.at_int HR0.out x5_1 p488 q488
      cases e488
      replace p488 := eq_true p488
      replace q488 := eq_true q488
      go_wp2
      go_ret
      exact ⟨by first | rfl | (simp; done) | (simp [*]; done), by repeat (first | exact Drawn0.refl _ | apply Drawn0.step)⟩
    ·rw [if_neg c4] at H
     exact absurd H (by simp)
   ·rw [if_neg c3] at H
    have c3b0 : decide (x5_1 < (l0.length : Int)) = false := decide_eq_false c3
    clear c3
    obtain rfl := Option.some.inj H
    go_wp2
    go_ret
    exact ⟨by first | rfl | (simp; done) | (simp [*]; done), by repeat (first | exact Drawn0.refl _ | apply Drawn0.step)⟩

end Go.Proofs.YtmdeolonjmjmgaaDoor.QFnExactDecFrac
