/- The machine side of one law: each function and the law itself walked once, written by a program of this session (wip/xprint.py) that runs the printer of the kit.
   Conditions: none. -/
import Derived.Test.YtlnihglcneaonaaQFnExactRelMeetx0
import Derived.Test.YtlnihglcneaonaaQFnExactRelMeetx6
namespace Go.Proofs.Ytlnihglcneaonaa.QFnExactRelMeet
open Go.RowKit Go.Proofs.YtlnihglcneaonaaW.PrintWords Go.Proofs.YtlnihglcneaonaaW.PrintLast Go.Proofs.YtlnihglcneaonaaW.PrintMore
attribute [local go_sem] Go.Instr.field Go.asAgg Go.Proofs.Ytlnihglcneaonaa.MS.isSome_setCell
attribute [local go_sem] max2_int min2_int max_two min_two max_three min_three max_four min_four   -- for this text's walks alone
set_option linter.unusedVariables false
set_option linter.unusedSimpArgs false

/-! ### impl_RelMeet: function 11 -/
mutual
def impl_RelMeet.j0 : Nat → Int → Int → Bool → Bool → Int → Int → Bool → Int → Int → Option (Bool × Int × Int × Bool × Int × Int)
 | 0, _, _, _, _, _, _, _, _, _ => none
 | k + 1, x0, x1, x22, x227000, x227001, x227002, x228000, x228001, x228002 => if x22 = true then (some (false, 0, 0, false, 0, 0)) else (if x1 = 2 then ((impl_RelMeet.f k x0 1 x228000 x228001 x228002 x227000 x227001 x227002).bind fun bt235 => (some (bt235.2.2.2.1, bt235.2.2.2.2.1, bt235.2.2.2.2.2, bt235.1, bt235.2.1, bt235.2.2.1))) else ((impl_SpanMeet.f k x0 x227000 x227001 x227002 x228000 x228001 x228002).bind fun bt241 => ((impl_SpanMeet.f k x0 x227000 x227001 x227002 x228000 x228001 x228002).bind fun bt244 => (if x1 = 1 then ((impl_BitTop.f x0).bind fun t249 => ((impl_some.f (wrap64 (-t249)) x228002).bind fun bt250 => ((impl_SpanMeet.f k x0 x227000 x227001 x227002 bt250.1 bt250.2.1 bt250.2.2).bind fun bt253 => ((impl_from.f x0 x227001).bind fun bt256 => ((impl_SpanMeet.f k x0 x228000 x228001 x228002 bt256.1 bt256.2.1 bt256.2.2).bind fun bt259 => (if bt253.1 = true then (if bt259.1 = true then (some (bt253.1, bt253.2.1, bt253.2.2, bt259.1, bt259.2.1, bt259.2.2)) else (some (false, 0, 0, false, 0, 0))) else (some (false, 0, 0, false, 0, 0)))))))) else (if bt241.1 = true then (if bt244.1 = true then (some (bt241.1, bt241.2.1, bt241.2.2, bt244.1, bt244.2.1, bt244.2.2)) else (some (false, 0, 0, false, 0, 0))) else (some (false, 0, 0, false, 0, 0)))))))
def impl_RelMeet.f : Nat → Int → Int → Bool → Int → Int → Bool → Int → Int → Option (Bool × Int × Int × Bool × Int × Int)
 | 0, _, _, _, _, _, _, _, _ => none
 | k + 1, a0, a1, a2_0, a2_1, a2_2, a3_0, a3_1, a3_2 => (impl_full.f k a0 (([(⟨a2_0, a2_1, a2_2⟩ : S24), (⟨a3_0, a3_1, a3_2⟩ : S24)] : List (S24)))).bind fun t233 => (if t233 = true then ((impl_in.f a1 1 3).bind fun t234 => (impl_RelMeet.j0 k a0 a1 (!t234) a2_0 a2_1 a2_2 a3_0 a3_1 a3_2)) else (impl_RelMeet.j0 k a0 a1 true a2_0 a2_1 a2_2 a3_0 a3_1 a3_2))
end
theorem impl_RelMeet.mono_l : ∀ k, (∀ y0 y1 y2 y3 y4 y5 y6 y7, LeO (impl_RelMeet.f k y0 y1 y2 y3 y4 y5 y6 y7) (impl_RelMeet.f (k + 1) y0 y1 y2 y3 y4 y5 y6 y7)) ∧ (∀ y0 y1 y2 y3 y4 y5 y6 y7 y8, LeO (impl_RelMeet.j0 k y0 y1 y2 y3 y4 y5 y6 y7 y8) (impl_RelMeet.j0 (k + 1) y0 y1 y2 y3 y4 y5 y6 y7 y8))
 | 0 => ⟨fun _ _ _ _ _ _ _ _ r h => by simp [impl_RelMeet.f] at h, fun _ _ _ _ _ _ _ _ _ r h => by simp [impl_RelMeet.j0] at h⟩
 | k + 1 => by
  obtain ⟨ih0, ih1⟩ := impl_RelMeet.mono_l k
  refine ⟨?_, ?_⟩
  ·intro y0 y1 y2 y3 y4 y5 y6 y7
   unfold impl_RelMeet.f
   repeat' first
   | (with_reducible exact ih0 _ _ _ _ _ _ _ _)
   | (with_reducible exact ih1 _ _ _ _ _ _ _ _ _)
   | (with_reducible exact impl_SpanMeet.mono _ _ _ _ _ _ _ _)
   | (with_reducible exact impl_full.mono _ _ _)
   | (with_reducible exact LeO.refl _)
   | (with_reducible exact LeO.none _)
   | (with_reducible refine LeO.ite ?_ ?_)
   | (with_reducible refine LeO.bind ?_ (fun _ => ?_))
   | exact ih0 _ _ _ _ _ _ _ _
   | exact ih1 _ _ _ _ _ _ _ _ _
   | exact impl_SpanMeet.mono _ _ _ _ _ _ _ _
   | exact impl_full.mono _ _ _
   | exact LeO.none _
   | refine LeO.ite ?_ ?_
   | refine LeO.bind ?_ (fun _ => ?_)
  ·intro y0 y1 y2 y3 y4 y5 y6 y7 y8
   unfold impl_RelMeet.j0
   repeat' first
   | (with_reducible exact ih0 _ _ _ _ _ _ _ _)
   | (with_reducible exact ih1 _ _ _ _ _ _ _ _ _)
   | (with_reducible exact impl_SpanMeet.mono _ _ _ _ _ _ _ _)
   | (with_reducible exact impl_full.mono _ _ _)
   | (with_reducible exact LeO.refl _)
   | (with_reducible exact LeO.none _)
   | (with_reducible refine LeO.ite ?_ ?_)
   | (with_reducible refine LeO.bind ?_ (fun _ => ?_))
   | exact ih0 _ _ _ _ _ _ _ _
   | exact ih1 _ _ _ _ _ _ _ _ _
   | exact impl_SpanMeet.mono _ _ _ _ _ _ _ _
   | exact impl_full.mono _ _ _
   | exact LeO.none _
   | refine LeO.ite ?_ ?_
   | refine LeO.bind ?_ (fun _ => ?_)
theorem impl_RelMeet.mono : ∀ a0 a1 a2 a3 a4 a5 a6 a7 k, LeO (impl_RelMeet.f k a0 a1 a2 a3 a4 a5 a6 a7) (impl_RelMeet.f (k + 1) a0 a1 a2 a3 a4 a5 a6 a7) := by
 intro a0 a1 a2 a3 a4 a5 a6 a7 k
 obtain ⟨ih0, ih1⟩ := impl_RelMeet.mono_l k
 exact ih0 a0 a1 a2 a3 a4 a5 a6 a7
def impl_RelMeet.T6 : Bool × List (List Nat × List Nat) := (true, [([], []), ([], []), ([], []), ([0, 1, 2], [0, 1, 2]), ([], []), ([], []), ([], []), ([4, 5, 6, 3], [4, 5, 6]), ([], []), ([], []), ([8, 3, 7, 0, 1, 2, 3, 8, 9], [3, 8]), ([9, 7, 10, 0, 1, 2, 3, 4, 5, 6, 7, 8, 9, 10], [7, 9])])
def impl_RelMeet.B6 : List Nat := [0, 0, 0, 7, 0, 0, 0, 127, 0, 0, 1023, 2047]
theorem impl_RelMeet.tab6 : rtab .any (opsOf Try.f11 6) = impl_RelMeet.T6 := by kernel_rfl
theorem impl_RelMeet.bits6 : waitsOk impl_RelMeet.T6.2 impl_RelMeet.B6 = true := by kernel_rfl
def impl_RelMeet.T8 : Bool × List (List Nat × List Nat) := (true, [([], []), ([], []), ([], []), ([2], [2]), ([3], [3]), ([], []), ([5], [5]), ([4, 6, 3], [4, 6]), ([0, 1, 7, 7], [0, 1, 7]), ([], []), ([], []), ([], []), ([], []), ([12], [12]), ([11, 13, 8], [11, 13]), ([9, 10, 14, 14], [9, 10, 14]), ([8, 15, 0, 1, 2, 3, 4, 5, 6, 7, 8], [8]), ([15, 16, 0, 1, 2, 3, 4, 5, 6, 7, 8, 9, 10, 11, 12, 13, 14, 15, 16], [15])])
def impl_RelMeet.B8 : List Nat := [0, 0, 0, 4, 12, 0, 32, 124, 255, 0, 0, 0, 0, 4096, 14847, 32767, 65535, 131071]
theorem impl_RelMeet.tab8 : rtab .any (opsOf Try.f11 8) = impl_RelMeet.T8 := by kernel_rfl
theorem impl_RelMeet.bits8 : waitsOk impl_RelMeet.T8.2 impl_RelMeet.B8 = true := by kernel_rfl
set_option maxHeartbeats 8000000 in
set_option maxRecDepth 100000 in
theorem impl_RelMeet.calls (k : Nat) : ∀ (a0 : Int) (a1 : Int) (a2_0 : Bool) (a2_1 : Int) (a2_2 : Int) (a3_0 : Bool) (a3_1 : Int) (a3_2 : Int) (r1 : Bool) (r2 : Int) (r3 : Int) (r4 : Bool) (r5 : Int) (r6 : Int) (w : World) (h : impl_RelMeet.f k a0 a1 a2_0 a2_1 a2_2 a3_0 a3_1 a3_2 = some (r1, r2, r3, r4, r5, r6)),
  Calls Try.prog 11 #[.int .i64 a0, .int .i64 a1, .agg #[.bool a2_0, .int .i64 a2_1, .int .i64 a2_2], .agg #[.bool a3_0, .int .i64 a3_1, .int .i64 a3_2]] w fun e w' => e = .returned (.tuple #[.agg #[.bool r1, .int .i64 r2, .int .i64 r3], .agg #[.bool r4, .int .i64 r5, .int .i64 r6]]) ∧ Below w.heap.size w w' := by
 induction k using Nat.strongRecOn with
 | _ k ih =>
 intro a0 a1 a2_0 a2_1 a2_2 a3_0 a3_1 a3_2 r1 r2 r3 r4 r5 r6 w h
 cases k with
 | zero => exact absurd h (by simp [impl_RelMeet.f])
 | succ k =>
 simp only [impl_RelMeet.f] at h
 have hu24 := Try.underlying24
 have HB := A_ (Below.refl w.heap.size w)
 have H : ((impl_full.f k a0 (([(⟨a2_0, a2_1, a2_2⟩ : S24), (⟨a3_0, a3_1, a3_2⟩ : S24)] : List (S24)))).bind fun t233 => (if t233 = true then ((impl_in.f a1 1 3).bind fun t234 => (impl_RelMeet.j0 k a0 a1 (!t234) a2_0 a2_1 a2_2 a3_0 a3_1 a3_2)) else (impl_RelMeet.j0 k a0 a1 true a2_0 a2_1 a2_2 a3_0 a3_1 a3_2))) = some (r1, r2, r3, r4, r5, r6) := h
 clear h
 have HC5 := A_ H
 clear H
 go_enter Try.func11, Try.ntmps11
 go_upto_region 1 with (first | ((with_reducible refine gate_dst (N := 6) rfl ?_); refine box_event ?hg (N := 6) ?hd (cs := #[.bool a2_0, .int .i64 a2_1, .int .i64 a2_2]) (t := 24) ?hr ?_; (case hd => rfl); (case hg => rfl); (case hr => first | (go_simp; done) | (go_simp; rfl)); intro gb226 hg w6 hbox hb; have n0_ := A_ (below_step hB_ hb); have n1_ := A_ (hbox); have n2_ := A_ (ge_ hg); have n3_ := n2_; clear HB; have HB := n0_; have BK226 := n1_; have GW226 := n2_; have GE226 := n3_; clear n0_ n1_ n2_ n3_; clear hb hbox hg) | ((with_reducible refine gate_dst (N := 7) rfl ?_); refine box_event ?hg (N := 7) ?hd (cs := #[.bool a3_0, .int .i64 a3_1, .int .i64 a3_2]) (t := 24) ?hr ?_; (case hd => rfl); (case hg => rfl); (case hr => first | (go_simp; done) | (go_simp; rfl)); intro gb227 hg w7 hbox hb; have n0_ := A_ (blk_below (bz_ BK226.out) hb); have n1_ := A_ (below_step hB_ hb); have n2_ := A_ (hbox); have n3_ := A_ (ge_ hg); have n4_ := n3_; have n5_ := A_ (nl_ hg (bz_ BK226.out)); have n6_ := A_ (ng_ hg (bz_ BK226.out)); clear BK226 HB; have BK226 := n0_; have HB := n1_; have BK227 := n2_; have GW227 := n3_; have GE227 := n4_; have NB226_227 := n5_; have NB227_226 := n6_; clear n0_ n1_ n2_ n3_ n4_ n5_ n6_; clear hb hbox hg) | ((with_reducible refine gate_dst (N := 8) rfl ?_); refine box_event ?hg (N := 8) ?hd (cs := #[.bool false, .int .i64 0, .int .i64 0]) (t := 24) ?hr ?_; (case hd => rfl); (case hg => rfl); (case hr => first | (go_simp; done) | (go_simp; rfl)); intro gb228 hg w8 hbox hb; have n0_ := A_ (blk_below (bz_ BK226.out) hb); have n1_ := A_ (blk_below (bz_ BK227.out) hb); have n2_ := A_ (below_step hB_ hb); have n3_ := A_ (hbox); have n4_ := A_ (ge_ hg); have n5_ := n4_; have n6_ := A_ (nl_ hg (bz_ BK226.out)); have n7_ := A_ (ng_ hg (bz_ BK226.out)); have n8_ := A_ (nl_ hg (bz_ BK227.out)); have n9_ := A_ (ng_ hg (bz_ BK227.out)); clear BK226 BK227 HB; have BK226 := n0_; have BK227 := n1_; have HB := n2_; have BK228 := n3_; have GW228 := n4_; have GE228 := n5_; have NB226_228 := n6_; have NB228_226 := n7_; have NB227_228 := n8_; have NB228_227 := n9_; clear n0_ n1_ n2_ n3_ n4_ n5_ n6_ n7_ n8_ n9_; clear hb hbox hg) | ((with_reducible refine gate_dst (N := 9) rfl ?_); refine box_event ?hg (N := 9) ?hd (cs := #[.bool false, .int .i64 0, .int .i64 0]) (t := 24) ?hr ?_; (case hd => rfl); (case hg => rfl); (case hr => first | (go_simp; done) | (go_simp; rfl)); intro gb229 hg w9 hbox hb; have n0_ := A_ (blk_below (bz_ BK226.out) hb); have n1_ := A_ (blk_below (bz_ BK227.out) hb); have n2_ := A_ (blk_below (bz_ BK228.out) hb); have n3_ := A_ (below_step hB_ hb); have n4_ := A_ (hbox); have n5_ := A_ (ge_ hg); have n6_ := n5_; have n7_ := A_ (nl_ hg (bz_ BK226.out)); have n8_ := A_ (ng_ hg (bz_ BK226.out)); have n9_ := A_ (nl_ hg (bz_ BK227.out)); have n10_ := A_ (ng_ hg (bz_ BK227.out)); have n11_ := A_ (nl_ hg (bz_ BK228.out)); have n12_ := A_ (ng_ hg (bz_ BK228.out)); clear BK226 BK227 BK228 HB; have BK226 := n0_; have BK227 := n1_; have BK228 := n2_; have HB := n3_; have BK229 := n4_; have GW229 := n5_; have GE229 := n6_; have NB226_229 := n7_; have NB229_226 := n8_; have NB227_229 := n9_; have NB229_227 := n10_; have NB228_229 := n11_; have NB229_228 := n12_; clear n0_ n1_ n2_ n3_ n4_ n5_ n6_ n7_ n8_ n9_ n10_ n11_ n12_; clear hb hbox hg))
 (try simp only [Act.put, x1_, x2_, x3_])
 go_cut [22] (fun v22 wc => ∃ (kq : Nat) (x22_4 : Bool), v22 = .bool x22_4 ∧ Aside0 (impl_RelMeet.j0 kq a0 a1 x22_4 a2_0 a2_1 a2_2 a3_0 a3_1 a3_2 = some (r1, r2, r3, r4, r5, r6)) ∧ Aside0 (kq ≤ k) ∧ Aside0 (wc.heap[gb226]? = some (.cells #[.bool a2_0, .int .i64 a2_1, .int .i64 a2_2] 24 (0, 0))) ∧ Aside0 (wc.heap[gb227]? = some (.cells #[.bool a3_0, .int .i64 a3_1, .int .i64 a3_2] 24 (0, 0))) ∧ Aside0 (wc.heap[gb228]? = some (.cells #[.bool false, .int .i64 0, .int .i64 0] 24 (0, 0))) ∧ Aside0 (wc.heap[gb229]? = some (.cells #[.bool false, .int .i64 0, .int .i64 0] 24 (0, 0))) ∧ Aside0 (Below w.heap.size w wc))
 case first =>
  have H := HC5.out
  clear HC5
  obtain ⟨y230, hy230⟩ : ∃ y_ : List (S24), y_ = (([(⟨a2_0, a2_1, a2_2⟩ : S24), (⟨a3_0, a3_1, a3_2⟩ : S24)] : List (S24))) := ⟨_, rfl⟩
  replace H : ((impl_full.f k a0 y230).bind fun t233 => (if t233 = true then ((impl_in.f a1 1 3).bind fun t234 => (impl_RelMeet.j0 k a0 a1 (!t234) a2_0 a2_1 a2_2 a3_0 a3_1 a3_2)) else (impl_RelMeet.j0 k a0 a1 true a2_0 a2_1 a2_2 a3_0 a3_1 a3_2))) = some (r1, r2, r3, r4, r5, r6) := by first | (rw [hy230]; with_reducible exact H) | (have H2_ := (Option.bind_some _ _).symm.trans H; rw [hy230]; with_reducible exact H2_) | (have H2_ := (Option.bind_some _ _).symm.trans H; with_reducible exact H2_) | with_reducible exact H | (rw [hy230]; exact H) | exact H
  have Ny230 := A_ hy230
  clear hy230
  replace H := Option.bind_eq_some_iff.mp H
  obtain ⟨t233, A100, H⟩ := H
  replace H : (if t233 = true then ((impl_in.f a1 1 3).bind fun t234 => (impl_RelMeet.j0 k a0 a1 (!t234) a2_0 a2_1 a2_2 a3_0 a3_1 a3_2)) else (impl_RelMeet.j0 k a0 a1 true a2_0 a2_1 a2_2 a3_0 a3_1 a3_2)) = some (r1, r2, r3, r4, r5, r6) := H
  have A10 := A_ A100
  clear A100
  by_cases c11 : t233 = true
  ·subst c11
   have H1 : ((impl_in.f a1 1 3).bind fun t234 => (impl_RelMeet.j0 k a0 a1 (!t234) a2_0 a2_1 a2_2 a3_0 a3_1 a3_2)) = some (r1, r2, r3, r4, r5, r6) := by rw [if_pos rfl] at H; exact H
   clear H
   have H := H1
   clear H1
   replace H := Option.bind_eq_some_iff.mp H
   obtain ⟨t234, A120, H⟩ := H
   replace H : (impl_RelMeet.j0 k a0 a1 (!t234) a2_0 a2_1 a2_2 a3_0 a3_1 a3_2) = some (r1, r2, r3, r4, r5, r6) := H
   have A12 := A_ A120
   clear A120
   have H' := A_ H
   clear H
   have hnb13 := NB226_227.out
   have hnc13 := NB227_226.out
   have hnb14 := NB226_228.out
   have hnc14 := NB228_226.out
   have hnb15 := NB226_229.out
   have hnc15 := NB229_226.out
   have hcz16_0 : w9.cell? ⟨gb226, 0, none⟩ = some (.bool a2_0) := bc_ BK226.out 0
   have hcz16_1 : w9.cell? ⟨gb226, 1, none⟩ = some (.int .i64 a2_1) := bc_ BK226.out 1
   have hcz16_2 : w9.cell? ⟨gb226, 2, none⟩ = some (.int .i64 a2_2) := bc_ BK226.out 2
   have hfz16_0 := blk_frozen BK226.out 0
   have hfz16_1 := blk_frozen BK226.out 1
   have hfz16_2 := blk_frozen BK226.out 2
   have hnb17 := NB227_228.out
   have hnc17 := NB228_227.out
   have hnb18 := NB227_229.out
   have hnc18 := NB229_227.out
   have hcz19_0 : w9.cell? ⟨gb227, 0, none⟩ = some (.bool a3_0) := bc_ BK227.out 0
   have hcz19_1 : w9.cell? ⟨gb227, 1, none⟩ = some (.int .i64 a3_1) := bc_ BK227.out 1
   have hcz19_2 : w9.cell? ⟨gb227, 2, none⟩ = some (.int .i64 a3_2) := bc_ BK227.out 2
   have hfz19_0 := blk_frozen BK227.out 0
   have hfz19_1 := blk_frozen BK227.out 1
   have hfz19_2 := blk_frozen BK227.out 2
   go_wp2_with (first | ((with_reducible refine gate_dst (N := 15) rfl ?_); refine Kd.R_lit k24 _ 24 ?hg (N := 15) ?hd (xs := ([(⟨a2_0, a2_1, a2_2⟩ : S24), (⟨a3_0, a3_1, a3_2⟩ : S24)] : List (S24))) (inner := [.bool a2_0, .int .i64 a2_1, .int .i64 a2_2, .bool a3_0, .int .i64 a3_1, .int .i64 a3_2]) (ok := fun _ => True) (okp := fun _ => True) ?hr ?hp (fun _ hk => hk) trivial (Below.refl _ _) (Nat.le_refl _) (by simp) ?_; (case hd => rfl); (case hg => rfl); (case hr => first | (go_simp; done) | (go_simp; rfl)); (case hp => exact (Reps.c3 (show Kd.M k24 _ _ _ (⟨a2_0, a2_1, a2_2⟩ : S24) [.bool a2_0, .int .i64 a2_1, .int .i64 a2_2] from (k24_mkM _ _ _ (⟨a2_0, a2_1, a2_2⟩ : S24) )) (Reps.c3 (show Kd.M k24 _ _ _ (⟨a3_0, a3_1, a3_2⟩ : S24) [.bool a3_0, .int .i64 a3_1, .int .i64 a3_2] from (k24_mkM _ _ _ (⟨a3_0, a3_1, a3_2⟩ : S24) )) (Reps.none _ _)))); intro v231 w20 ho21 hb hg_ hnew_; clear hg_ hnew_; (first | rw [← Ny230.out] at ho21 | (simp only [Int.reduceToNat] at ho21; rw [← Ny230.out] at ho21)); have n0_ := A_ (Kd.R_lower (Kd.R_newB (Kd.R_newB (Kd.R_newB (Kd.R_newB ho21 (bz_ BK226.out)) (bz_ BK227.out)) (bz_ BK228.out)) (bz_ BK229.out)) (below_size hB_)); have n1_ := A_ (blk_below (bz_ BK226.out) hb); have n2_ := A_ (blk_below (bz_ BK227.out) hb); have n3_ := A_ (blk_below (bz_ BK228.out) hb); have n4_ := A_ (blk_below (bz_ BK229.out) hb); have n5_ := A_ (below_step hB_ hb); clear BK226 BK227 BK228 BK229 HB; have HO232 := n0_; have BK226 := n1_; have BK227 := n2_; have BK228 := n3_; have BK229 := n4_; have HB := n5_; clear n0_ n1_ n2_ n3_ n4_ n5_; clear hb ho21; obtain ⟨Ao22, co22, eo22⟩ := Kd.R_slice HO232.out; subst eo22) | ((with_reducible refine gate_callee (f := 37) rfl ?_); refine goesL_ (some 16) rfl rfl Try.func37 (by kernel_rfl) rfl #[.int .i64 a0, .slice Ao22 y230.length co22] rfl (by (try simp only [List.map_toArray, List.map_cons, List.map_nil]); first | done | rfl) ?_; (with_reducible refine (impl_full.calls k a0 _ _ y230 true _ ?side1 ?side2 A10.out).mono ?_); (case side1 => repeat (first | exact (Kd.R_reads' HO232.out).2.2 | (with_reducible refine Kd.C_alloc ?_ _) | (with_reducible refine Kd.C_drewN ?_ _) | (with_reducible refine Kd.C_drew ?_))); (case side2 => exact (Kd.R_reads' HO232.out).2.1); rintro e w23 ⟨rfl, hb⟩; refine ⟨_, rfl, ?_⟩; have n0_ := A_ (Kd.R_below (rz_ HO232.out) hb); have n1_ := A_ (blk_below (bz_ BK226.out) hb); have n2_ := A_ (blk_below (bz_ BK227.out) hb); have n3_ := A_ (blk_below (bz_ BK228.out) hb); have n4_ := A_ (blk_below (bz_ BK229.out) hb); have n5_ := A_ (below_step hB_ hb); clear HO232 BK226 BK227 BK228 BK229 HB; have HO232 := n0_; have BK226 := n1_; have BK227 := n2_; have BK228 := n3_; have BK229 := n4_; have HB := n5_; clear n0_ n1_ n2_ n3_ n4_ n5_; (try clear hb); (try clear hb2); (try clear hk); (try clear hi)) | (go_at_call 38; (with_reducible refine (impl_in.calls a1 1 3 t234 _ A12.out).mono ?_); rintro e w' ⟨rfl, ⟨nd, rfl⟩⟩))
   go_meet
   case rel => exact ⟨_, (!t234), (by first | rfl | (simp; done) | (simp [*]; done)), H', ⟨by first | omega | exact Nat.le_refl _⟩, ⟨by (with_reducible repeat (first | apply bn_ | apply bd_ | apply ba_)); exact BK226.out⟩, ⟨by (with_reducible repeat (first | apply bn_ | apply bd_ | apply ba_)); exact BK227.out⟩, ⟨by (with_reducible repeat (first | apply bn_ | apply bd_ | apply ba_)); exact BK228.out⟩, ⟨by (with_reducible repeat (first | apply bn_ | apply bd_ | apply ba_)); exact BK229.out⟩, ⟨by repeat (first | (with_reducible first | exact HB.out | apply b1_ | apply b2_ | apply b3_ | apply c_ GE226 | apply c_ GE227 | apply c_ GE228 | apply c_ GE229) | exact HB.out)⟩⟩
  ·replace c11 := Bool.eq_false_iff.mpr c11
   subst c11
   have H1 : (impl_RelMeet.j0 k a0 a1 true a2_0 a2_1 a2_2 a3_0 a3_1 a3_2) = some (r1, r2, r3, r4, r5, r6) := by rw [if_neg (show ¬ (false = true) by decide)] at H; exact H
   clear H
   have H := H1
   clear H1
   have H' := A_ H
   clear H
   have hnb24 := NB226_227.out
   have hnc24 := NB227_226.out
   have hnb25 := NB226_228.out
   have hnc25 := NB228_226.out
   have hnb26 := NB226_229.out
   have hnc26 := NB229_226.out
   have hcz27_0 : w9.cell? ⟨gb226, 0, none⟩ = some (.bool a2_0) := bc_ BK226.out 0
   have hcz27_1 : w9.cell? ⟨gb226, 1, none⟩ = some (.int .i64 a2_1) := bc_ BK226.out 1
   have hcz27_2 : w9.cell? ⟨gb226, 2, none⟩ = some (.int .i64 a2_2) := bc_ BK226.out 2
   have hfz27_0 := blk_frozen BK226.out 0
   have hfz27_1 := blk_frozen BK226.out 1
   have hfz27_2 := blk_frozen BK226.out 2
   have hnb28 := NB227_228.out
   have hnc28 := NB228_227.out
   have hnb29 := NB227_229.out
   have hnc29 := NB229_227.out
   have hcz30_0 : w9.cell? ⟨gb227, 0, none⟩ = some (.bool a3_0) := bc_ BK227.out 0
   have hcz30_1 : w9.cell? ⟨gb227, 1, none⟩ = some (.int .i64 a3_1) := bc_ BK227.out 1
   have hcz30_2 : w9.cell? ⟨gb227, 2, none⟩ = some (.int .i64 a3_2) := bc_ BK227.out 2
   have hfz30_0 := blk_frozen BK227.out 0
   have hfz30_1 := blk_frozen BK227.out 1
   have hfz30_2 := blk_frozen BK227.out 2
   go_wp2_with (first | ((with_reducible refine gate_dst (N := 15) rfl ?_); refine Kd.R_lit k24 _ 24 ?hg (N := 15) ?hd (xs := ([(⟨a2_0, a2_1, a2_2⟩ : S24), (⟨a3_0, a3_1, a3_2⟩ : S24)] : List (S24))) (inner := [.bool a2_0, .int .i64 a2_1, .int .i64 a2_2, .bool a3_0, .int .i64 a3_1, .int .i64 a3_2]) (ok := fun _ => True) (okp := fun _ => True) ?hr ?hp (fun _ hk => hk) trivial (Below.refl _ _) (Nat.le_refl _) (by simp) ?_; (case hd => rfl); (case hg => rfl); (case hr => first | (go_simp; done) | (go_simp; rfl)); (case hp => exact (Reps.c3 (show Kd.M k24 _ _ _ (⟨a2_0, a2_1, a2_2⟩ : S24) [.bool a2_0, .int .i64 a2_1, .int .i64 a2_2] from (k24_mkM _ _ _ (⟨a2_0, a2_1, a2_2⟩ : S24) )) (Reps.c3 (show Kd.M k24 _ _ _ (⟨a3_0, a3_1, a3_2⟩ : S24) [.bool a3_0, .int .i64 a3_1, .int .i64 a3_2] from (k24_mkM _ _ _ (⟨a3_0, a3_1, a3_2⟩ : S24) )) (Reps.none _ _)))); intro v231 w31 ho32 hb hg_ hnew_; clear hg_ hnew_; (first | rw [← Ny230.out] at ho32 | (simp only [Int.reduceToNat] at ho32; rw [← Ny230.out] at ho32)); have n0_ := A_ (Kd.R_lower (Kd.R_newB (Kd.R_newB (Kd.R_newB (Kd.R_newB ho32 (bz_ BK226.out)) (bz_ BK227.out)) (bz_ BK228.out)) (bz_ BK229.out)) (below_size hB_)); have n1_ := A_ (blk_below (bz_ BK226.out) hb); have n2_ := A_ (blk_below (bz_ BK227.out) hb); have n3_ := A_ (blk_below (bz_ BK228.out) hb); have n4_ := A_ (blk_below (bz_ BK229.out) hb); have n5_ := A_ (below_step hB_ hb); clear BK226 BK227 BK228 BK229 HB; have HO232 := n0_; have BK226 := n1_; have BK227 := n2_; have BK228 := n3_; have BK229 := n4_; have HB := n5_; clear n0_ n1_ n2_ n3_ n4_ n5_; clear hb ho32; obtain ⟨Ao33, co33, eo33⟩ := Kd.R_slice HO232.out; subst eo33) | ((with_reducible refine gate_callee (f := 37) rfl ?_); refine goesL_ (some 16) rfl rfl Try.func37 (by kernel_rfl) rfl #[.int .i64 a0, .slice Ao33 y230.length co33] rfl (by (try simp only [List.map_toArray, List.map_cons, List.map_nil]); first | done | rfl) ?_; (with_reducible refine (impl_full.calls k a0 _ _ y230 false _ ?side1 ?side2 A10.out).mono ?_); (case side1 => repeat (first | exact (Kd.R_reads' HO232.out).2.2 | (with_reducible refine Kd.C_alloc ?_ _) | (with_reducible refine Kd.C_drewN ?_ _) | (with_reducible refine Kd.C_drew ?_))); (case side2 => exact (Kd.R_reads' HO232.out).2.1); rintro e w34 ⟨rfl, hb⟩; refine ⟨_, rfl, ?_⟩; have n0_ := A_ (Kd.R_below (rz_ HO232.out) hb); have n1_ := A_ (blk_below (bz_ BK226.out) hb); have n2_ := A_ (blk_below (bz_ BK227.out) hb); have n3_ := A_ (blk_below (bz_ BK228.out) hb); have n4_ := A_ (blk_below (bz_ BK229.out) hb); have n5_ := A_ (below_step hB_ hb); clear HO232 BK226 BK227 BK228 BK229 HB; have HO232 := n0_; have BK226 := n1_; have BK227 := n2_; have BK228 := n3_; have BK229 := n4_; have HB := n5_; clear n0_ n1_ n2_ n3_ n4_ n5_; (try clear hb); (try clear hb2); (try clear hk); (try clear hi)))
   go_meet
   case rel => exact ⟨_, (true), (by first | rfl | (simp; done) | (simp [*]; done)), H', ⟨by first | omega | exact Nat.le_refl _⟩, ⟨by (with_reducible repeat (first | apply bn_ | apply bd_ | apply ba_)); exact BK226.out⟩, ⟨by (with_reducible repeat (first | apply bn_ | apply bd_ | apply ba_)); exact BK227.out⟩, ⟨by (with_reducible repeat (first | apply bn_ | apply bd_ | apply ba_)); exact BK228.out⟩, ⟨by (with_reducible repeat (first | apply bn_ | apply bd_ | apply ba_)); exact BK229.out⟩, ⟨by repeat (first | (with_reducible first | exact HB.out | apply b1_ | apply b2_ | apply b3_ | apply c_ GE226 | apply c_ GE227 | apply c_ GE228 | apply c_ GE229) | exact HB.out)⟩⟩
 case rest =>
  clear HC5
  (try clear c1); (try clear c2); (try clear p2); (try clear c3); (try clear c11); (try clear c13); (try clear c14); (try clear c15); (try clear c17); (try clear c18); (try clear c24); (try clear c25); (try clear c26); (try clear c28); (try clear c29); (try clear hcz16_0); (try clear hcz16_1); (try clear hcz16_2); (try clear hcz19_0); (try clear hcz19_1); (try clear hcz19_2); (try clear hcz27_0); (try clear hcz27_1); (try clear hcz27_2); (try clear hcz30_0); (try clear hcz30_1); (try clear hcz30_2); (try clear hfz16_0); (try clear hfz16_1); (try clear hfz16_2); (try clear hfz19_0); (try clear hfz19_1); (try clear hfz19_2); (try clear hfz27_0); (try clear hfz27_1); (try clear hfz27_2); (try clear hfz30_0); (try clear hfz30_1); (try clear hfz30_2)
  obtain ⟨kq, x22_4, rfl, HA, HJ4, BK226, BK227, BK228, BK229, HB⟩ := hcut
  cases kq with
  | zero => exact absurd HA.out (by simp [impl_RelMeet.j0])
  | succ kj4 =>
   have H := HA.out
   clear HA
   simp only [impl_RelMeet.j0] at H
   by_cases c35 : x22_4 = true
   ·subst c35
    have H1 : (some (false, 0, 0, false, 0, 0)) = some (r1, r2, r3, r4, r5, r6) := by rw [if_pos rfl] at H; exact H
    clear H
    have H := H1
    clear H1
    simp only [Option.some.injEq, Prod.mk.injEq] at H
    obtain ⟨rfl, rfl, rfl, rfl, rfl, rfl⟩ := H
    have hnb36 := NB228_226.out
    have hnc36 := NB226_228.out
    have hnb37 := NB228_227.out
    have hnc37 := NB227_228.out
    have hnb38 := NB228_229.out
    have hnc38 := NB229_228.out
    have hcz39_0 : wc.cell? ⟨gb228, 0, none⟩ = some (.bool false) := bc_ BK228.out 0
    have hcz39_1 : wc.cell? ⟨gb228, 1, none⟩ = some (.int .i64 0) := bc_ BK228.out 1
    have hcz39_2 : wc.cell? ⟨gb228, 2, none⟩ = some (.int .i64 0) := bc_ BK228.out 2
    have hfz39_0 := blk_frozen BK228.out 0
    have hfz39_1 := blk_frozen BK228.out 1
    have hfz39_2 := blk_frozen BK228.out 2
    have hnb40 := NB229_226.out
    have hnc40 := NB226_229.out
    have hnb41 := NB229_227.out
    have hnc41 := NB227_229.out
    have hcz42_0 : wc.cell? ⟨gb229, 0, none⟩ = some (.bool false) := bc_ BK229.out 0
    have hcz42_1 : wc.cell? ⟨gb229, 1, none⟩ = some (.int .i64 0) := bc_ BK229.out 1
    have hcz42_2 : wc.cell? ⟨gb229, 2, none⟩ = some (.int .i64 0) := bc_ BK229.out 2
    have hfz42_0 := blk_frozen BK229.out 0
    have hfz42_1 := blk_frozen BK229.out 1
    have hfz42_2 := blk_frozen BK229.out 2
    go_wp2
    refine bodyPost_ret (results_cc rfl _ _ gb228 gb229 24 24 #[.bool false, .int .i64 0, .int .i64 0] #[.bool false, .int .i64 0, .int .i64 0] (0, 0) (0, 0) _ _ rfl (by (with_reducible repeat (first | apply bn_ | apply bd_ | apply ba_)); refine blk_far ?_ NB228_229.out _; (with_reducible repeat (first | apply bn_ | apply bd_ | apply ba_)); refine blk_far ?_ NB228_229.out _; (with_reducible repeat (first | apply bn_ | apply bd_ | apply ba_)); refine blk_far ?_ NB228_229.out _; (with_reducible repeat (first | apply bn_ | apply bd_ | apply ba_)); refine blk_put (cs := #[.bool false, .int .i64 0, .int .i64 0]) ?_ 2 _ (by first | rfl | (simp [*]; done)); (with_reducible repeat (first | apply bn_ | apply bd_ | apply ba_)); refine blk_put (cs := #[.bool false, .int .i64 0, .int .i64 0]) ?_ 1 _ (by first | rfl | (simp [*]; done)); (with_reducible repeat (first | apply bn_ | apply bd_ | apply ba_)); refine blk_put (cs := #[.bool false, .int .i64 0, .int .i64 0]) ?_ 0 _ (by first | rfl | (simp [*]; done)); (with_reducible repeat (first | apply bn_ | apply bd_ | apply ba_)); exact BK228.out) Try.underlying24 rfl (by kernel_rfl) rfl (by (with_reducible repeat (first | apply bn_ | apply bd_ | apply ba_)); refine blk_put (cs := #[.bool false, .int .i64 0, .int .i64 0]) ?_ 2 _ (by first | rfl | (simp [*]; done)); (with_reducible repeat (first | apply bn_ | apply bd_ | apply ba_)); refine blk_put (cs := #[.bool false, .int .i64 0, .int .i64 0]) ?_ 1 _ (by first | rfl | (simp [*]; done)); (with_reducible repeat (first | apply bn_ | apply bd_ | apply ba_)); refine blk_put (cs := #[.bool false, .int .i64 0, .int .i64 0]) ?_ 0 _ (by first | rfl | (simp [*]; done)); (with_reducible repeat (first | apply bn_ | apply bd_ | apply ba_)); refine blk_far ?_ NB229_228.out _; (with_reducible repeat (first | apply bn_ | apply bd_ | apply ba_)); refine blk_far ?_ NB229_228.out _; (with_reducible repeat (first | apply bn_ | apply bd_ | apply ba_)); refine blk_far ?_ NB229_228.out _; (with_reducible repeat (first | apply bn_ | apply bd_ | apply ba_)); exact BK229.out) Try.underlying24 rfl (by kernel_rfl)) rfl ?_
    exact ⟨by first | rfl | (simp [errW_none, errW_some] <;> rfl) | (simp [*, errW_none, errW_some] <;> rfl), by repeat (first | (with_reducible first | exact HB.out | apply b1_ | apply b2_ | apply b3_ | apply c_ GE226 | apply c_ GE227 | apply c_ GE228 | apply c_ GE229) | exact HB.out)⟩
   ·replace c35 := Bool.eq_false_iff.mpr c35
    subst c35
    have H1 : (if a1 = 2 then ((impl_RelMeet.f kj4 a0 1 a3_0 a3_1 a3_2 a2_0 a2_1 a2_2).bind fun bt235 => (some (bt235.2.2.2.1, bt235.2.2.2.2.1, bt235.2.2.2.2.2, bt235.1, bt235.2.1, bt235.2.2.1))) else ((impl_SpanMeet.f kj4 a0 a2_0 a2_1 a2_2 a3_0 a3_1 a3_2).bind fun bt241 => ((impl_SpanMeet.f kj4 a0 a2_0 a2_1 a2_2 a3_0 a3_1 a3_2).bind fun bt244 => (if a1 = 1 then ((impl_BitTop.f a0).bind fun t249 => ((impl_some.f (wrap64 (-t249)) a3_2).bind fun bt250 => ((impl_SpanMeet.f kj4 a0 a2_0 a2_1 a2_2 bt250.1 bt250.2.1 bt250.2.2).bind fun bt253 => ((impl_from.f a0 a2_1).bind fun bt256 => ((impl_SpanMeet.f kj4 a0 a3_0 a3_1 a3_2 bt256.1 bt256.2.1 bt256.2.2).bind fun bt259 => (if bt253.1 = true then (if bt259.1 = true then (some (bt253.1, bt253.2.1, bt253.2.2, bt259.1, bt259.2.1, bt259.2.2)) else (some (false, 0, 0, false, 0, 0))) else (some (false, 0, 0, false, 0, 0)))))))) else (if bt241.1 = true then (if bt244.1 = true then (some (bt241.1, bt241.2.1, bt241.2.2, bt244.1, bt244.2.1, bt244.2.2)) else (some (false, 0, 0, false, 0, 0))) else (some (false, 0, 0, false, 0, 0))))))) = some (r1, r2, r3, r4, r5, r6) := by rw [if_neg (show ¬ (false = true) by decide)] at H; exact H
    clear H
    have H := H1
    clear H1
    by_cases c43 : a1 = 2
    ·rw [if_pos c43] at H
     have c43b0 : (a1 == 2) = true := beq_iff_eq.mpr c43
     have c43b1 : (a1 != 2) = false := bne_eq_false_iff_eq.mpr c43
     clear c43
     replace H := Option.bind_eq_some_iff.mp H
     obtain ⟨⟨t235, t236, t237, t238, t239, t240⟩, A440, H⟩ := H
     replace H : (some (t238, t239, t240, t235, t236, t237)) = some (r1, r2, r3, r4, r5, r6) := H
     have A44 := A_ A440
     clear A440
     simp only [Option.some.injEq, Prod.mk.injEq] at H
     obtain ⟨rfl, rfl, rfl, rfl, rfl, rfl⟩ := H
     have hnb45 := NB227_226.out
     have hnc45 := NB226_227.out
     have hnb46 := NB227_228.out
     have hnc46 := NB228_227.out
     have hnb47 := NB227_229.out
     have hnc47 := NB229_227.out
     have hcz48_0 : wc.cell? ⟨gb227, 0, none⟩ = some (.bool a3_0) := bc_ BK227.out 0
     have hcz48_1 : wc.cell? ⟨gb227, 1, none⟩ = some (.int .i64 a3_1) := bc_ BK227.out 1
     have hcz48_2 : wc.cell? ⟨gb227, 2, none⟩ = some (.int .i64 a3_2) := bc_ BK227.out 2
     have hfz48_0 := blk_frozen BK227.out 0
     have hfz48_1 := blk_frozen BK227.out 1
     have hfz48_2 := blk_frozen BK227.out 2
     have hnb49 := NB226_228.out
     have hnc49 := NB228_226.out
     have hnb50 := NB226_229.out
     have hnc50 := NB229_226.out
     have hcz51_0 : wc.cell? ⟨gb226, 0, none⟩ = some (.bool a2_0) := bc_ BK226.out 0
     have hcz51_1 : wc.cell? ⟨gb226, 1, none⟩ = some (.int .i64 a2_1) := bc_ BK226.out 1
     have hcz51_2 : wc.cell? ⟨gb226, 2, none⟩ = some (.int .i64 a2_2) := bc_ BK226.out 2
     have hfz51_0 := blk_frozen BK226.out 0
     have hfz51_1 := blk_frozen BK226.out 1
     have hfz51_2 := blk_frozen BK226.out 2
     try go_wp2_with (first | ((with_reducible refine gate_callee (f := 11) rfl ?_); refine goesL_ (some 31) rfl rfl Try.func11 (by kernel_rfl) rfl #[.int .i64 a0, .int .i64 1, .agg #[.bool a3_0, .int .i64 a3_1, .int .i64 a3_2], .agg #[.bool a2_0, .int .i64 a2_1, .int .i64 a2_2]] rfl (by (try simp only [List.map_toArray, List.map_cons, List.map_nil]); first | done | rfl) ?_; (with_reducible refine (ih kj4 (by have := HJ4.out; omega) a0 1 a3_0 a3_1 a3_2 a2_0 a2_1 a2_2 t235 t236 t237 t238 t239 t240 _ A44.out).mono ?_); rintro e w52 ⟨rfl, hb⟩; refine ⟨_, rfl, ?_⟩; have n0_ := A_ (blk_below (bz_ BK226.out) hb); have n1_ := A_ (blk_below (bz_ BK227.out) hb); have n2_ := A_ (blk_below (bz_ BK228.out) hb); have n3_ := A_ (blk_below (bz_ BK229.out) hb); have n4_ := A_ (below_step hB_ hb); clear BK226 BK227 BK228 BK229 HB; have BK226 := n0_; have BK227 := n1_; have BK228 := n2_; have BK229 := n3_; have HB := n4_; clear n0_ n1_ n2_ n3_ n4_; (try clear hb); (try clear hb2); (try clear hk); (try clear hi); have hcz53_0 : w52.cell? ⟨gb227, 0, none⟩ = some (.bool a3_0) := bc_ BK227.out 0; have hcz53_1 : w52.cell? ⟨gb227, 1, none⟩ = some (.int .i64 a3_1) := bc_ BK227.out 1; have hcz53_2 : w52.cell? ⟨gb227, 2, none⟩ = some (.int .i64 a3_2) := bc_ BK227.out 2; have hfz53_0 := blk_frozen BK227.out 0; have hfz53_1 := blk_frozen BK227.out 1; have hfz53_2 := blk_frozen BK227.out 2; have hcz54_0 : w52.cell? ⟨gb226, 0, none⟩ = some (.bool a2_0) := bc_ BK226.out 0; have hcz54_1 : w52.cell? ⟨gb226, 1, none⟩ = some (.int .i64 a2_1) := bc_ BK226.out 1; have hcz54_2 : w52.cell? ⟨gb226, 2, none⟩ = some (.int .i64 a2_2) := bc_ BK226.out 2; have hfz54_0 := blk_frozen BK226.out 0; have hfz54_1 := blk_frozen BK226.out 1; have hfz54_2 := blk_frozen BK226.out 2))
     have n0_ : Aside0 (((((((w52.setCell ⟨gb227, 0, none⟩ (.bool t235)).setCell ⟨gb227, 1, none⟩ (.int .i64 t236)).setCell ⟨gb227, 2, none⟩ (.int .i64 t237)).setCell ⟨gb226, 0, none⟩ (.bool t238)).setCell ⟨gb226, 1, none⟩ (.int .i64 t239)).setCell ⟨gb226, 2, none⟩ (.int .i64 t240)).heap[gb226]? = some (.cells #[.bool t238, .int .i64 t239, .int .i64 t240] 24 (0, 0))) := ⟨by (with_reducible repeat (first | apply bn_ | apply bd_ | apply ba_)); refine blk_put (cs := #[.bool t238, .int .i64 t239, .int .i64 a2_2]) ?_ 2 _ (by first | rfl | (simp [*]; done)); (with_reducible repeat (first | apply bn_ | apply bd_ | apply ba_)); refine blk_put (cs := #[.bool t238, .int .i64 a2_1, .int .i64 a2_2]) ?_ 1 _ (by first | rfl | (simp [*]; done)); (with_reducible repeat (first | apply bn_ | apply bd_ | apply ba_)); refine blk_put (cs := #[.bool a2_0, .int .i64 a2_1, .int .i64 a2_2]) ?_ 0 _ (by first | rfl | (simp [*]; done)); (with_reducible repeat (first | apply bn_ | apply bd_ | apply ba_)); refine blk_far ?_ NB226_227.out _; (with_reducible repeat (first | apply bn_ | apply bd_ | apply ba_)); refine blk_far ?_ NB226_227.out _; (with_reducible repeat (first | apply bn_ | apply bd_ | apply ba_)); refine blk_far ?_ NB226_227.out _; (with_reducible repeat (first | apply bn_ | apply bd_ | apply ba_)); exact BK226.out⟩
     have n1_ : Aside0 (((((((w52.setCell ⟨gb227, 0, none⟩ (.bool t235)).setCell ⟨gb227, 1, none⟩ (.int .i64 t236)).setCell ⟨gb227, 2, none⟩ (.int .i64 t237)).setCell ⟨gb226, 0, none⟩ (.bool t238)).setCell ⟨gb226, 1, none⟩ (.int .i64 t239)).setCell ⟨gb226, 2, none⟩ (.int .i64 t240)).heap[gb227]? = some (.cells #[.bool t235, .int .i64 t236, .int .i64 t237] 24 (0, 0))) := ⟨by (with_reducible repeat (first | apply bn_ | apply bd_ | apply ba_)); refine blk_far ?_ NB227_226.out _; (with_reducible repeat (first | apply bn_ | apply bd_ | apply ba_)); refine blk_far ?_ NB227_226.out _; (with_reducible repeat (first | apply bn_ | apply bd_ | apply ba_)); refine blk_far ?_ NB227_226.out _; (with_reducible repeat (first | apply bn_ | apply bd_ | apply ba_)); refine blk_put (cs := #[.bool t235, .int .i64 t236, .int .i64 a3_2]) ?_ 2 _ (by first | rfl | (simp [*]; done)); (with_reducible repeat (first | apply bn_ | apply bd_ | apply ba_)); refine blk_put (cs := #[.bool t235, .int .i64 a3_1, .int .i64 a3_2]) ?_ 1 _ (by first | rfl | (simp [*]; done)); (with_reducible repeat (first | apply bn_ | apply bd_ | apply ba_)); refine blk_put (cs := #[.bool a3_0, .int .i64 a3_1, .int .i64 a3_2]) ?_ 0 _ (by first | rfl | (simp [*]; done)); (with_reducible repeat (first | apply bn_ | apply bd_ | apply ba_)); exact BK227.out⟩
     have n2_ : Aside0 (((((((w52.setCell ⟨gb227, 0, none⟩ (.bool t235)).setCell ⟨gb227, 1, none⟩ (.int .i64 t236)).setCell ⟨gb227, 2, none⟩ (.int .i64 t237)).setCell ⟨gb226, 0, none⟩ (.bool t238)).setCell ⟨gb226, 1, none⟩ (.int .i64 t239)).setCell ⟨gb226, 2, none⟩ (.int .i64 t240)).heap[gb228]? = some (.cells #[.bool false, .int .i64 0, .int .i64 0] 24 (0, 0))) := ⟨by (with_reducible repeat (first | apply bn_ | apply bd_ | apply ba_)); refine blk_far ?_ NB228_226.out _; (with_reducible repeat (first | apply bn_ | apply bd_ | apply ba_)); refine blk_far ?_ NB228_226.out _; (with_reducible repeat (first | apply bn_ | apply bd_ | apply ba_)); refine blk_far ?_ NB228_226.out _; (with_reducible repeat (first | apply bn_ | apply bd_ | apply ba_)); refine blk_far ?_ NB228_227.out _; (with_reducible repeat (first | apply bn_ | apply bd_ | apply ba_)); refine blk_far ?_ NB228_227.out _; (with_reducible repeat (first | apply bn_ | apply bd_ | apply ba_)); refine blk_far ?_ NB228_227.out _; (with_reducible repeat (first | apply bn_ | apply bd_ | apply ba_)); exact BK228.out⟩
     have n3_ : Aside0 (((((((w52.setCell ⟨gb227, 0, none⟩ (.bool t235)).setCell ⟨gb227, 1, none⟩ (.int .i64 t236)).setCell ⟨gb227, 2, none⟩ (.int .i64 t237)).setCell ⟨gb226, 0, none⟩ (.bool t238)).setCell ⟨gb226, 1, none⟩ (.int .i64 t239)).setCell ⟨gb226, 2, none⟩ (.int .i64 t240)).heap[gb229]? = some (.cells #[.bool false, .int .i64 0, .int .i64 0] 24 (0, 0))) := ⟨by (with_reducible repeat (first | apply bn_ | apply bd_ | apply ba_)); refine blk_far ?_ NB229_226.out _; (with_reducible repeat (first | apply bn_ | apply bd_ | apply ba_)); refine blk_far ?_ NB229_226.out _; (with_reducible repeat (first | apply bn_ | apply bd_ | apply ba_)); refine blk_far ?_ NB229_226.out _; (with_reducible repeat (first | apply bn_ | apply bd_ | apply ba_)); refine blk_far ?_ NB229_227.out _; (with_reducible repeat (first | apply bn_ | apply bd_ | apply ba_)); refine blk_far ?_ NB229_227.out _; (with_reducible repeat (first | apply bn_ | apply bd_ | apply ba_)); refine blk_far ?_ NB229_227.out _; (with_reducible repeat (first | apply bn_ | apply bd_ | apply ba_)); exact BK229.out⟩
     have n4_ : Aside0 (Below w.heap.size w ((((((w52.setCell ⟨gb227, 0, none⟩ (.bool t235)).setCell ⟨gb227, 1, none⟩ (.int .i64 t236)).setCell ⟨gb227, 2, none⟩ (.int .i64 t237)).setCell ⟨gb226, 0, none⟩ (.bool t238)).setCell ⟨gb226, 1, none⟩ (.int .i64 t239)).setCell ⟨gb226, 2, none⟩ (.int .i64 t240))) := ⟨by repeat (first | (with_reducible first | exact HB.out | apply b1_ | apply b2_ | apply b3_ | apply c_ GE226 | apply c_ GE227 | apply c_ GE228 | apply c_ GE229) | exact HB.out)⟩
     (try clear BK226)
     (try clear BK227)
     (try clear BK228)
     (try clear BK229)
     (try clear HB)
     generalize ((((((w52.setCell ⟨gb227, 0, none⟩ (.bool t235)).setCell ⟨gb227, 1, none⟩ (.int .i64 t236)).setCell ⟨gb227, 2, none⟩ (.int .i64 t237)).setCell ⟨gb226, 0, none⟩ (.bool t238)).setCell ⟨gb226, 1, none⟩ (.int .i64 t239)).setCell ⟨gb226, 2, none⟩ (.int .i64 t240)) = w55 at n0_ n1_ n2_ n3_ n4_ ⊢
     have BK226 := n0_
     have BK227 := n1_
     have BK228 := n2_
     have BK229 := n3_
     have HB := n4_
     clear n0_ n1_ n2_ n3_ n4_
     have n0_ := A_ (blk_drew BK226.out)
     have n1_ := A_ (blk_drew BK227.out)
     have n2_ := A_ (blk_drew BK228.out)
     have n3_ := A_ (blk_drew BK229.out)
     have n4_ := A_ (below_drew1 HB.out)
     clear BK226 BK227
     clear BK228 BK229 HB
     have BK226 := n0_
     have BK227 := n1_
     have BK228 := n2_
     have BK229 := n3_
     have HB := n4_
     clear n0_ n1_ n2_ n3_ n4_
     refine start_ (n := 4) (S := fun w' => w'.cell? ⟨gb226, 0, none⟩ = some (.bool t238) ∧ w'.cell? ⟨gb226, 1, none⟩ = some (.int .i64 t239) ∧ w'.cell? ⟨gb226, 2, none⟩ = some (.int .i64 t240) ∧ w'.cell? ⟨gb227, 0, none⟩ = some (.bool t235) ∧ w'.cell? ⟨gb227, 1, none⟩ = some (.int .i64 t236) ∧ w'.cell? ⟨gb227, 2, none⟩ = some (.int .i64 t237)) (ds := []) #[false, false, false, false] (by kernel_rfl) rfl rfl ⟨bc_ BK226.out 0, bc_ BK226.out 1, bc_ BK226.out 2, bc_ BK227.out 0, bc_ BK227.out 1, bc_ BK227.out 2⟩ (fun hHeld => ?_)
     generalize w55.drew = w56 at BK226 BK227 BK228 BK229 HB hHeld ⊢
     refine take_ (i := 0) (N := some 34) (v := ?_) (a' := ?_) #[true, false, false, false] rfl rfl (by kernel_rfl) (fun _ _ _ h => h) (Or.inl ⟨by rfl, ?_⟩) hHeld ?_ ?_
     rotate_left
     ·rintro w' ⟨s0, s1, s2, s3, s4, s5⟩
      go_simp
      with_reducible rfl
     rotate_left
     ·simp only [Act.put, x1_, x2_, x3_, i64_w, i32_w]
      rfl
     refine take_ (i := 1) (N := some 35) (v := ?_) (a' := ?_) #[true, true, false, false] rfl rfl (by kernel_rfl) (fun _ _ _ h => h) (Or.inl ⟨by rfl, ?_⟩) hHeld ?_ ?_
     rotate_left
     ·rintro w' ⟨s0, s1, s2, s3, s4, s5⟩
      go_simp
      with_reducible rfl
     rotate_left
     ·simp only [Act.put, x1_, x2_, x3_, i64_w, i32_w]
      rfl
     refine one_ (i := 2) (N := none) #[true, true, true, false] rfl rfl (by kernel_rfl) (by decide) (fun K hK => ?_)
     have hs57 : w56.cell? ⟨gb228, 0, none⟩ = some (.bool false) := bc_ BK228.out 0
     have hfs57 := blk_frozen BK228.out 0
     have hns57_0 := NB226_228.out
     have hns57_1 := NB227_228.out
     have hns57_3 := NB229_228.out
     have hms57_0 := NB228_226.out
     have hms57_1 := NB228_227.out
     have hms57_3 := NB228_229.out
     have hs58 : w56.cell? ⟨gb228, 1, none⟩ = some (.int .i64 0) := bc_ BK228.out 1
     have hfs58 := blk_frozen BK228.out 1
     have hns58_0 := NB226_228.out
     have hns58_1 := NB227_228.out
     have hns58_3 := NB229_228.out
     have hms58_0 := NB228_226.out
     have hms58_1 := NB228_227.out
     have hms58_3 := NB228_229.out
     have hs59 : w56.cell? ⟨gb228, 2, none⟩ = some (.int .i64 0) := bc_ BK228.out 2
     have hfs59 := blk_frozen BK228.out 2
     have hns59_0 := NB226_228.out
     have hns59_1 := NB227_228.out
     have hns59_3 := NB229_228.out
     have hms59_0 := NB228_226.out
     have hms59_1 := NB228_227.out
     have hms59_3 := NB228_229.out
     refine skip_ (w1 := ?_) (by rfl) rfl ?_ ?_
     rotate_left
     ·go_simp
      rfl
     refine hK.out _ _ ⟨((cell_far (p := ⟨gb228, _, none⟩) NB226_228.out _).trans (((cell_far (p := ⟨gb228, _, none⟩) NB226_228.out _).trans (((cell_far (p := ⟨gb228, _, none⟩) NB226_228.out _).trans (hHeld.1)))))), ((cell_far (p := ⟨gb228, _, none⟩) NB226_228.out _).trans (((cell_far (p := ⟨gb228, _, none⟩) NB226_228.out _).trans (((cell_far (p := ⟨gb228, _, none⟩) NB226_228.out _).trans (hHeld.2.1)))))), ((cell_far (p := ⟨gb228, _, none⟩) NB226_228.out _).trans (((cell_far (p := ⟨gb228, _, none⟩) NB226_228.out _).trans (((cell_far (p := ⟨gb228, _, none⟩) NB226_228.out _).trans (hHeld.2.2.1)))))), ((cell_far (p := ⟨gb228, _, none⟩) NB227_228.out _).trans (((cell_far (p := ⟨gb228, _, none⟩) NB227_228.out _).trans (((cell_far (p := ⟨gb228, _, none⟩) NB227_228.out _).trans (hHeld.2.2.2.1)))))), ((cell_far (p := ⟨gb228, _, none⟩) NB227_228.out _).trans (((cell_far (p := ⟨gb228, _, none⟩) NB227_228.out _).trans (((cell_far (p := ⟨gb228, _, none⟩) NB227_228.out _).trans (hHeld.2.2.2.2.1)))))), ((cell_far (p := ⟨gb228, _, none⟩) NB227_228.out _).trans (((cell_far (p := ⟨gb228, _, none⟩) NB227_228.out _).trans (((cell_far (p := ⟨gb228, _, none⟩) NB227_228.out _).trans (hHeld.2.2.2.2.2))))))⟩ (fun hHeld => ?_)
     clear hK K
     refine one_ (i := 3) (N := none) #[true, true, true, true] rfl rfl (by kernel_rfl) (by decide) (fun K hK => ?_)
     have hs60 : w56.cell? ⟨gb229, 0, none⟩ = some (.bool false) := bc_ BK229.out 0
     have hfs60 := blk_frozen BK229.out 0
     have hns60_0 := NB226_229.out
     have hns60_1 := NB227_229.out
     have hns60_2 := NB228_229.out
     have hms60_0 := NB229_226.out
     have hms60_1 := NB229_227.out
     have hms60_2 := NB229_228.out
     have hs61 : w56.cell? ⟨gb229, 1, none⟩ = some (.int .i64 0) := bc_ BK229.out 1
     have hfs61 := blk_frozen BK229.out 1
     have hns61_0 := NB226_229.out
     have hns61_1 := NB227_229.out
     have hns61_2 := NB228_229.out
     have hms61_0 := NB229_226.out
     have hms61_1 := NB229_227.out
     have hms61_2 := NB229_228.out
     have hs62 : w56.cell? ⟨gb229, 2, none⟩ = some (.int .i64 0) := bc_ BK229.out 2
     have hfs62 := blk_frozen BK229.out 2
     have hns62_0 := NB226_229.out
     have hns62_1 := NB227_229.out
     have hns62_2 := NB228_229.out
     have hms62_0 := NB229_226.out
     have hms62_1 := NB229_227.out
     have hms62_2 := NB229_228.out
     refine skip_ (w1 := ?_) (by rfl) rfl ?_ ?_
     rotate_left
     ·go_simp
      rfl
     refine hK.out _ _ ⟨((cell_far (p := ⟨gb229, _, none⟩) NB226_229.out _).trans (((cell_far (p := ⟨gb229, _, none⟩) NB226_229.out _).trans (((cell_far (p := ⟨gb229, _, none⟩) NB226_229.out _).trans (hHeld.1)))))), ((cell_far (p := ⟨gb229, _, none⟩) NB226_229.out _).trans (((cell_far (p := ⟨gb229, _, none⟩) NB226_229.out _).trans (((cell_far (p := ⟨gb229, _, none⟩) NB226_229.out _).trans (hHeld.2.1)))))), ((cell_far (p := ⟨gb229, _, none⟩) NB226_229.out _).trans (((cell_far (p := ⟨gb229, _, none⟩) NB226_229.out _).trans (((cell_far (p := ⟨gb229, _, none⟩) NB226_229.out _).trans (hHeld.2.2.1)))))), ((cell_far (p := ⟨gb229, _, none⟩) NB227_229.out _).trans (((cell_far (p := ⟨gb229, _, none⟩) NB227_229.out _).trans (((cell_far (p := ⟨gb229, _, none⟩) NB227_229.out _).trans (hHeld.2.2.2.1)))))), ((cell_far (p := ⟨gb229, _, none⟩) NB227_229.out _).trans (((cell_far (p := ⟨gb229, _, none⟩) NB227_229.out _).trans (((cell_far (p := ⟨gb229, _, none⟩) NB227_229.out _).trans (hHeld.2.2.2.2.1)))))), ((cell_far (p := ⟨gb229, _, none⟩) NB227_229.out _).trans (((cell_far (p := ⟨gb229, _, none⟩) NB227_229.out _).trans (((cell_far (p := ⟨gb229, _, none⟩) NB227_229.out _).trans (hHeld.2.2.2.2.2))))))⟩ (fun hHeld => ?_)
     clear hK K
     refine done_ (by kernel_rfl) ?_
     try go_wp2
     refine bodyPost_ret (results_cc rfl _ _ gb228 gb229 24 24 #[.bool t238, .int .i64 t239, .int .i64 t240] #[.bool t235, .int .i64 t236, .int .i64 t237] (0, 0) (0, 0) _ _ rfl (by (with_reducible repeat (first | apply bn_ | apply bd_ | apply ba_)); refine blk_far ?_ NB228_229.out _; (with_reducible repeat (first | apply bn_ | apply bd_ | apply ba_)); refine blk_far ?_ NB228_229.out _; (with_reducible repeat (first | apply bn_ | apply bd_ | apply ba_)); refine blk_far ?_ NB228_229.out _; (with_reducible repeat (first | apply bn_ | apply bd_ | apply ba_)); refine blk_put (cs := #[.bool t238, .int .i64 t239, .int .i64 0]) ?_ 2 _ (by first | rfl | (simp [*]; done)); (with_reducible repeat (first | apply bn_ | apply bd_ | apply ba_)); refine blk_put (cs := #[.bool t238, .int .i64 0, .int .i64 0]) ?_ 1 _ (by first | rfl | (simp [*]; done)); (with_reducible repeat (first | apply bn_ | apply bd_ | apply ba_)); refine blk_put (cs := #[.bool false, .int .i64 0, .int .i64 0]) ?_ 0 _ (by first | rfl | (simp [*]; done)); (with_reducible repeat (first | apply bn_ | apply bd_ | apply ba_)); exact BK228.out) Try.underlying24 rfl (by kernel_rfl) rfl (by (with_reducible repeat (first | apply bn_ | apply bd_ | apply ba_)); refine blk_put (cs := #[.bool t235, .int .i64 t236, .int .i64 0]) ?_ 2 _ (by first | rfl | (simp [*]; done)); (with_reducible repeat (first | apply bn_ | apply bd_ | apply ba_)); refine blk_put (cs := #[.bool t235, .int .i64 0, .int .i64 0]) ?_ 1 _ (by first | rfl | (simp [*]; done)); (with_reducible repeat (first | apply bn_ | apply bd_ | apply ba_)); refine blk_put (cs := #[.bool false, .int .i64 0, .int .i64 0]) ?_ 0 _ (by first | rfl | (simp [*]; done)); (with_reducible repeat (first | apply bn_ | apply bd_ | apply ba_)); refine blk_far ?_ NB229_228.out _; (with_reducible repeat (first | apply bn_ | apply bd_ | apply ba_)); refine blk_far ?_ NB229_228.out _; (with_reducible repeat (first | apply bn_ | apply bd_ | apply ba_)); refine blk_far ?_ NB229_228.out _; (with_reducible repeat (first | apply bn_ | apply bd_ | apply ba_)); exact BK229.out) Try.underlying24 rfl (by kernel_rfl)) rfl ?_
     exact ⟨by first | rfl | (simp [errW_none, errW_some] <;> rfl) | (simp [*, errW_none, errW_some] <;> rfl), by repeat (first | (with_reducible first | exact HB.out | apply b1_ | apply b2_ | apply b3_ | apply c_ GE226 | apply c_ GE227 | apply c_ GE228 | apply c_ GE229) | exact HB.out)⟩
    ·rw [if_neg c43] at H
     have c43b0 : (a1 == 2) = false := beq_eq_false_iff_ne.mpr c43
     have c43b1 : (a1 != 2) = true := bne_iff_ne.mpr c43
     replace H := Option.bind_eq_some_iff.mp H
     obtain ⟨⟨t241, t242, t243⟩, A630, H⟩ := H
     replace H : ((impl_SpanMeet.f kj4 a0 a2_0 a2_1 a2_2 a3_0 a3_1 a3_2).bind fun bt244 => (if a1 = 1 then ((impl_BitTop.f a0).bind fun t249 => ((impl_some.f (wrap64 (-t249)) a3_2).bind fun bt250 => ((impl_SpanMeet.f kj4 a0 a2_0 a2_1 a2_2 bt250.1 bt250.2.1 bt250.2.2).bind fun bt253 => ((impl_from.f a0 a2_1).bind fun bt256 => ((impl_SpanMeet.f kj4 a0 a3_0 a3_1 a3_2 bt256.1 bt256.2.1 bt256.2.2).bind fun bt259 => (if bt253.1 = true then (if bt259.1 = true then (some (bt253.1, bt253.2.1, bt253.2.2, bt259.1, bt259.2.1, bt259.2.2)) else (some (false, 0, 0, false, 0, 0))) else (some (false, 0, 0, false, 0, 0)))))))) else (if t241 = true then (if bt244.1 = true then (some (t241, t242, t243, bt244.1, bt244.2.1, bt244.2.2)) else (some (false, 0, 0, false, 0, 0))) else (some (false, 0, 0, false, 0, 0))))) = some (r1, r2, r3, r4, r5, r6) := H
     have A63 := A_ A630
     clear A630
     replace H := Option.bind_eq_some_iff.mp H
     obtain ⟨⟨t244, t245, t246⟩, A640, H⟩ := H
     replace H : (if a1 = 1 then ((impl_BitTop.f a0).bind fun t249 => ((impl_some.f (wrap64 (-t249)) a3_2).bind fun bt250 => ((impl_SpanMeet.f kj4 a0 a2_0 a2_1 a2_2 bt250.1 bt250.2.1 bt250.2.2).bind fun bt253 => ((impl_from.f a0 a2_1).bind fun bt256 => ((impl_SpanMeet.f kj4 a0 a3_0 a3_1 a3_2 bt256.1 bt256.2.1 bt256.2.2).bind fun bt259 => (if bt253.1 = true then (if bt259.1 = true then (some (bt253.1, bt253.2.1, bt253.2.2, bt259.1, bt259.2.1, bt259.2.2)) else (some (false, 0, 0, false, 0, 0))) else (some (false, 0, 0, false, 0, 0)))))))) else (if t241 = true then (if t244 = true then (some (t241, t242, t243, t244, t245, t246)) else (some (false, 0, 0, false, 0, 0))) else (some (false, 0, 0, false, 0, 0)))) = some (r1, r2, r3, r4, r5, r6) := H
     have A64 := A_ A640
     clear A640
     have e_ := Option.some.inj (A63.out.symm.trans A64.out)
     simp only [Prod.mk.injEq] at e_
     obtain ⟨rfl, rfl, rfl⟩ := e_
     try go_wp2
     have n0_ := A_ (blk_drew BK226.out)
     have n1_ := A_ (blk_drew BK227.out)
     have n2_ := A_ (blk_drew BK228.out)
     have n3_ := A_ (blk_drew BK229.out)
     have n4_ := A_ (below_drew1 HB.out)
     clear BK226 BK227
     clear BK228 BK229 HB
     have BK226 := n0_
     have BK227 := n1_
     have BK228 := n2_
     have BK229 := n3_
     have HB := n4_
     clear n0_ n1_ n2_ n3_ n4_
     refine start_ (n := 12) (S := fun w' => w'.cell? ⟨gb226, 0, none⟩ = some (.bool a2_0) ∧ w'.cell? ⟨gb226, 1, none⟩ = some (.int .i64 a2_1) ∧ w'.cell? ⟨gb226, 2, none⟩ = some (.int .i64 a2_2) ∧ w'.cell? ⟨gb227, 0, none⟩ = some (.bool a3_0) ∧ w'.cell? ⟨gb227, 1, none⟩ = some (.int .i64 a3_1) ∧ w'.cell? ⟨gb227, 2, none⟩ = some (.int .i64 a3_2)) (ds := []) #[false, false, false, false, false, false, false, false, false, false, false, false] (by kernel_rfl) rfl rfl ⟨bc_ BK226.out 0, bc_ BK226.out 1, bc_ BK226.out 2, bc_ BK227.out 0, bc_ BK227.out 1, bc_ BK227.out 2⟩ (fun hHeld => ?_); refine with_tabW impl_RelMeet.tab6 impl_RelMeet.bits6 (fun HT_ HW_ => ?_)
     generalize wc.drew = w73 at BK226 BK227 BK228 BK229 HB hHeld ⊢
     refine pure_ (i := 0) (N := some 36) (v := ?_) (a' := ?_) #[true, false, false, false, false, false, false, false, false, false, false, false] rfl rfl (any_of HT_.out (by kernel_rfl)) (fun _ _ _ h => h) (Or.inl ⟨by rfl, ?_⟩) ?_ ?_
     rotate_left
     ·intro w'
      go_simp
      with_reducible rfl
     rotate_left
     ·simp only [Act.put, x1_, x2_, x3_, i64_w, i32_w]
      rfl
     refine pure_ (i := 4) (N := some 40) (v := ?_) (a' := ?_) #[true, false, false, false, true, false, false, false, false, false, false, false] rfl rfl (any_of HT_.out (by kernel_rfl)) (fun _ _ _ h => h) (Or.inl ⟨by rfl, ?_⟩) ?_ ?_
     rotate_left
     ·intro w'
      go_simp
      with_reducible rfl
     rotate_left
     ·simp only [Act.put, x1_, x2_, x3_, i64_w, i32_w]
      rfl
     refine take_ (i := 1) (N := some 37) (v := ?_) (a' := ?_) #[true, true, false, false, true, false, false, false, false, false, false, false] rfl rfl (take_ofW HT_.out HW_.out (by kernel_rfl)) (fun _ _ _ h => h) (Or.inl ⟨by rfl, ?_⟩) hHeld ?_ ?_
     rotate_left
     ·rintro w' ⟨s0, s1, s2, s3, s4, s5⟩
      go_simp
      with_reducible rfl
     rotate_left
     ·simp only [Act.put, x1_, x2_, x3_, i64_w, i32_w]
      rfl
     refine take_ (i := 2) (N := some 38) (v := ?_) (a' := ?_) #[true, true, true, false, true, false, false, false, false, false, false, false] rfl rfl (take_ofW HT_.out HW_.out (by kernel_rfl)) (fun _ _ _ h => h) (Or.inl ⟨by rfl, ?_⟩) hHeld ?_ ?_
     rotate_left
     ·rintro w' ⟨s0, s1, s2, s3, s4, s5⟩
      go_simp
      with_reducible rfl
     rotate_left
     ·simp only [Act.put, x1_, x2_, x3_, i64_w, i32_w]
      rfl
     refine take_ (i := 5) (N := some 41) (v := ?_) (a' := ?_) #[true, true, true, false, true, true, false, false, false, false, false, false] rfl rfl (take_ofW HT_.out HW_.out (by kernel_rfl)) (fun _ _ _ h => h) (Or.inl ⟨by rfl, ?_⟩) hHeld ?_ ?_
     rotate_left
     ·rintro w' ⟨s0, s1, s2, s3, s4, s5⟩
      go_simp
      with_reducible rfl
     rotate_left
     ·simp only [Act.put, x1_, x2_, x3_, i64_w, i32_w]
      rfl
     refine take_ (i := 6) (N := some 42) (v := ?_) (a' := ?_) #[true, true, true, false, true, true, true, false, false, false, false, false] rfl rfl (take_ofW HT_.out HW_.out (by kernel_rfl)) (fun _ _ _ h => h) (Or.inl ⟨by rfl, ?_⟩) hHeld ?_ ?_
     rotate_left
     ·rintro w' ⟨s0, s1, s2, s3, s4, s5⟩
      go_simp
      with_reducible rfl
     rotate_left
     ·simp only [Act.put, x1_, x2_, x3_, i64_w, i32_w]
      rfl
     refine join_ (σ := Nat × Nat) 2 #[true, true, true, true, true, true, true, true, true, true, false, false] (fun s_ => [(39, .agg #[.bool t241, .int .i64 t242, .int .i64 t243]), (43, .agg #[.bool t241, .int .i64 t242, .int .i64 t243]), (10, .pointer (some ⟨s_.1, 0, none⟩)), (11, .pointer (some ⟨s_.2, 0, none⟩))]) (fun s_ w' => (w'.cell? ⟨gb226, 0, none⟩ = some (.bool a2_0) ∧ w'.cell? ⟨gb226, 1, none⟩ = some (.int .i64 a2_1) ∧ w'.cell? ⟨gb226, 2, none⟩ = some (.int .i64 a2_2) ∧ w'.cell? ⟨gb227, 0, none⟩ = some (.bool a3_0) ∧ w'.cell? ⟨gb227, 1, none⟩ = some (.int .i64 a3_1) ∧ w'.cell? ⟨gb227, 2, none⟩ = some (.int .i64 a3_2)) ∧ (w'.heap[gb226]? = some (.cells #[.bool a2_0, .int .i64 a2_1, .int .i64 a2_2] 24 (0, 0))) ∧ (w'.heap[gb227]? = some (.cells #[.bool a3_0, .int .i64 a3_1, .int .i64 a3_2] 24 (0, 0))) ∧ (w'.heap[gb228]? = some (.cells #[.bool false, .int .i64 0, .int .i64 0] 24 (0, 0))) ∧ (w'.heap[gb229]? = some (.cells #[.bool false, .int .i64 0, .int .i64 0] 24 (0, 0))) ∧ (w'.heap[s_.1]? = some (.cells #[.bool false, .int .i64 0, .int .i64 0] 24 (0, 0))) ∧ (w'.heap[s_.2]? = some (.cells #[.bool false, .int .i64 0, .int .i64 0] 24 (0, 0))) ∧ (w.heap.size ≤ s_.1) ∧ (w.heap.size ≤ s_.1) ∧ (gb226 ≠ s_.1) ∧ (s_.1 ≠ gb226) ∧ (gb227 ≠ s_.1) ∧ (s_.1 ≠ gb227) ∧ (gb228 ≠ s_.1) ∧ (s_.1 ≠ gb228) ∧ (gb229 ≠ s_.1) ∧ (s_.1 ≠ gb229) ∧ (s_.2 ≠ s_.1) ∧ (s_.1 ≠ s_.2) ∧ (w.heap.size ≤ s_.2) ∧ (w.heap.size ≤ s_.2) ∧ (gb226 ≠ s_.2) ∧ (s_.2 ≠ gb226) ∧ (gb227 ≠ s_.2) ∧ (s_.2 ≠ gb227) ∧ (gb228 ≠ s_.2) ∧ (s_.2 ≠ gb228) ∧ (gb229 ≠ s_.2) ∧ (s_.2 ≠ gb229) ∧ (Below w.heap.size w w')) ?_ ?_
     rotate_left
     ·intro hJ3_7_8_9
      refine join_ (σ := Nat) 3 #[true, true, true, true, true, true, true, true, true, false, false, false] (fun s_ => [(39, .agg #[.bool t241, .int .i64 t242, .int .i64 t243]), (43, .agg #[.bool t241, .int .i64 t242, .int .i64 t243]), (10, .pointer (some ⟨s_, 0, none⟩))]) (fun s_ w' => (w'.cell? ⟨gb226, 0, none⟩ = some (.bool a2_0) ∧ w'.cell? ⟨gb226, 1, none⟩ = some (.int .i64 a2_1) ∧ w'.cell? ⟨gb226, 2, none⟩ = some (.int .i64 a2_2) ∧ w'.cell? ⟨gb227, 0, none⟩ = some (.bool a3_0) ∧ w'.cell? ⟨gb227, 1, none⟩ = some (.int .i64 a3_1) ∧ w'.cell? ⟨gb227, 2, none⟩ = some (.int .i64 a3_2)) ∧ (w'.heap[gb226]? = some (.cells #[.bool a2_0, .int .i64 a2_1, .int .i64 a2_2] 24 (0, 0))) ∧ (w'.heap[gb227]? = some (.cells #[.bool a3_0, .int .i64 a3_1, .int .i64 a3_2] 24 (0, 0))) ∧ (w'.heap[gb228]? = some (.cells #[.bool false, .int .i64 0, .int .i64 0] 24 (0, 0))) ∧ (w'.heap[gb229]? = some (.cells #[.bool false, .int .i64 0, .int .i64 0] 24 (0, 0))) ∧ (w'.heap[s_]? = some (.cells #[.bool false, .int .i64 0, .int .i64 0] 24 (0, 0))) ∧ (w.heap.size ≤ s_) ∧ (w.heap.size ≤ s_) ∧ (gb226 ≠ s_) ∧ (s_ ≠ gb226) ∧ (gb227 ≠ s_) ∧ (s_ ≠ gb227) ∧ (gb228 ≠ s_) ∧ (s_ ≠ gb228) ∧ (gb229 ≠ s_) ∧ (s_ ≠ gb229) ∧ (Below w.heap.size w w')) ?_ ?_
      rotate_left
      ·intro hJ3_7_8
       refine join_ (σ := Nat) 3 #[true, true, true, true, true, true, true, true, false, true, false, false] (fun s_ => [(39, .agg #[.bool t241, .int .i64 t242, .int .i64 t243]), (43, .agg #[.bool t241, .int .i64 t242, .int .i64 t243]), (11, .pointer (some ⟨s_, 0, none⟩))]) (fun s_ w' => (w'.cell? ⟨gb226, 0, none⟩ = some (.bool a2_0) ∧ w'.cell? ⟨gb226, 1, none⟩ = some (.int .i64 a2_1) ∧ w'.cell? ⟨gb226, 2, none⟩ = some (.int .i64 a2_2) ∧ w'.cell? ⟨gb227, 0, none⟩ = some (.bool a3_0) ∧ w'.cell? ⟨gb227, 1, none⟩ = some (.int .i64 a3_1) ∧ w'.cell? ⟨gb227, 2, none⟩ = some (.int .i64 a3_2)) ∧ (w'.heap[gb226]? = some (.cells #[.bool a2_0, .int .i64 a2_1, .int .i64 a2_2] 24 (0, 0))) ∧ (w'.heap[gb227]? = some (.cells #[.bool a3_0, .int .i64 a3_1, .int .i64 a3_2] 24 (0, 0))) ∧ (w'.heap[gb228]? = some (.cells #[.bool false, .int .i64 0, .int .i64 0] 24 (0, 0))) ∧ (w'.heap[gb229]? = some (.cells #[.bool false, .int .i64 0, .int .i64 0] 24 (0, 0))) ∧ (w'.heap[s_]? = some (.cells #[.bool false, .int .i64 0, .int .i64 0] 24 (0, 0))) ∧ (w.heap.size ≤ s_) ∧ (w.heap.size ≤ s_) ∧ (gb226 ≠ s_) ∧ (s_ ≠ gb226) ∧ (gb227 ≠ s_) ∧ (s_ ≠ gb227) ∧ (gb228 ≠ s_) ∧ (s_ ≠ gb228) ∧ (gb229 ≠ s_) ∧ (s_ ≠ gb229) ∧ (Below w.heap.size w w')) ?_ ?_
       rotate_left
       ·intro hJ3_7_9
        refine join_ (σ := Nat × Nat) 3 #[true, true, true, true, true, true, true, false, true, true, false, false] (fun s_ => [(39, .agg #[.bool t241, .int .i64 t242, .int .i64 t243]), (10, .pointer (some ⟨s_.1, 0, none⟩)), (11, .pointer (some ⟨s_.2, 0, none⟩))]) (fun s_ w' => (w'.cell? ⟨gb226, 0, none⟩ = some (.bool a2_0) ∧ w'.cell? ⟨gb226, 1, none⟩ = some (.int .i64 a2_1) ∧ w'.cell? ⟨gb226, 2, none⟩ = some (.int .i64 a2_2) ∧ w'.cell? ⟨gb227, 0, none⟩ = some (.bool a3_0) ∧ w'.cell? ⟨gb227, 1, none⟩ = some (.int .i64 a3_1) ∧ w'.cell? ⟨gb227, 2, none⟩ = some (.int .i64 a3_2)) ∧ (w'.heap[gb226]? = some (.cells #[.bool a2_0, .int .i64 a2_1, .int .i64 a2_2] 24 (0, 0))) ∧ (w'.heap[gb227]? = some (.cells #[.bool a3_0, .int .i64 a3_1, .int .i64 a3_2] 24 (0, 0))) ∧ (w'.heap[gb228]? = some (.cells #[.bool false, .int .i64 0, .int .i64 0] 24 (0, 0))) ∧ (w'.heap[gb229]? = some (.cells #[.bool false, .int .i64 0, .int .i64 0] 24 (0, 0))) ∧ (w'.heap[s_.1]? = some (.cells #[.bool false, .int .i64 0, .int .i64 0] 24 (0, 0))) ∧ (w'.heap[s_.2]? = some (.cells #[.bool false, .int .i64 0, .int .i64 0] 24 (0, 0))) ∧ (w.heap.size ≤ s_.1) ∧ (w.heap.size ≤ s_.1) ∧ (gb226 ≠ s_.1) ∧ (s_.1 ≠ gb226) ∧ (gb227 ≠ s_.1) ∧ (s_.1 ≠ gb227) ∧ (gb228 ≠ s_.1) ∧ (s_.1 ≠ gb228) ∧ (gb229 ≠ s_.1) ∧ (s_.1 ≠ gb229) ∧ (s_.2 ≠ s_.1) ∧ (s_.1 ≠ s_.2) ∧ (w.heap.size ≤ s_.2) ∧ (w.heap.size ≤ s_.2) ∧ (gb226 ≠ s_.2) ∧ (s_.2 ≠ gb226) ∧ (gb227 ≠ s_.2) ∧ (s_.2 ≠ gb227) ∧ (gb228 ≠ s_.2) ∧ (s_.2 ≠ gb228) ∧ (gb229 ≠ s_.2) ∧ (s_.2 ≠ gb229) ∧ (Below w.heap.size w w')) ?_ ?_
        rotate_left
        ·intro hJ3_8_9
         refine join_ (σ := Unit) 4 #[true, true, true, true, true, true, true, true, false, false, false, false] (fun s_ => [(39, .agg #[.bool t241, .int .i64 t242, .int .i64 t243]), (43, .agg #[.bool t241, .int .i64 t242, .int .i64 t243])]) (fun s_ w' => (w'.cell? ⟨gb226, 0, none⟩ = some (.bool a2_0) ∧ w'.cell? ⟨gb226, 1, none⟩ = some (.int .i64 a2_1) ∧ w'.cell? ⟨gb226, 2, none⟩ = some (.int .i64 a2_2) ∧ w'.cell? ⟨gb227, 0, none⟩ = some (.bool a3_0) ∧ w'.cell? ⟨gb227, 1, none⟩ = some (.int .i64 a3_1) ∧ w'.cell? ⟨gb227, 2, none⟩ = some (.int .i64 a3_2)) ∧ (w'.heap[gb226]? = some (.cells #[.bool a2_0, .int .i64 a2_1, .int .i64 a2_2] 24 (0, 0))) ∧ (w'.heap[gb227]? = some (.cells #[.bool a3_0, .int .i64 a3_1, .int .i64 a3_2] 24 (0, 0))) ∧ (w'.heap[gb228]? = some (.cells #[.bool false, .int .i64 0, .int .i64 0] 24 (0, 0))) ∧ (w'.heap[gb229]? = some (.cells #[.bool false, .int .i64 0, .int .i64 0] 24 (0, 0))) ∧ (Below w.heap.size w w')) ?_ ?_
         rotate_left
         ·intro hJ3_7
          refine join_ (σ := Nat) 4 #[true, true, true, true, true, true, true, false, true, false, false, false] (fun s_ => [(39, .agg #[.bool t241, .int .i64 t242, .int .i64 t243]), (10, .pointer (some ⟨s_, 0, none⟩))]) (fun s_ w' => (w'.cell? ⟨gb226, 0, none⟩ = some (.bool a2_0) ∧ w'.cell? ⟨gb226, 1, none⟩ = some (.int .i64 a2_1) ∧ w'.cell? ⟨gb226, 2, none⟩ = some (.int .i64 a2_2) ∧ w'.cell? ⟨gb227, 0, none⟩ = some (.bool a3_0) ∧ w'.cell? ⟨gb227, 1, none⟩ = some (.int .i64 a3_1) ∧ w'.cell? ⟨gb227, 2, none⟩ = some (.int .i64 a3_2)) ∧ (w'.heap[gb226]? = some (.cells #[.bool a2_0, .int .i64 a2_1, .int .i64 a2_2] 24 (0, 0))) ∧ (w'.heap[gb227]? = some (.cells #[.bool a3_0, .int .i64 a3_1, .int .i64 a3_2] 24 (0, 0))) ∧ (w'.heap[gb228]? = some (.cells #[.bool false, .int .i64 0, .int .i64 0] 24 (0, 0))) ∧ (w'.heap[gb229]? = some (.cells #[.bool false, .int .i64 0, .int .i64 0] 24 (0, 0))) ∧ (w'.heap[s_]? = some (.cells #[.bool false, .int .i64 0, .int .i64 0] 24 (0, 0))) ∧ (w.heap.size ≤ s_) ∧ (w.heap.size ≤ s_) ∧ (gb226 ≠ s_) ∧ (s_ ≠ gb226) ∧ (gb227 ≠ s_) ∧ (s_ ≠ gb227) ∧ (gb228 ≠ s_) ∧ (s_ ≠ gb228) ∧ (gb229 ≠ s_) ∧ (s_ ≠ gb229) ∧ (Below w.heap.size w w')) ?_ ?_
          rotate_left
          ·intro hJ3_8
           refine join_ (σ := Nat) 4 #[true, true, true, true, true, true, true, false, false, true, false, false] (fun s_ => [(39, .agg #[.bool t241, .int .i64 t242, .int .i64 t243]), (11, .pointer (some ⟨s_, 0, none⟩))]) (fun s_ w' => (w'.cell? ⟨gb226, 0, none⟩ = some (.bool a2_0) ∧ w'.cell? ⟨gb226, 1, none⟩ = some (.int .i64 a2_1) ∧ w'.cell? ⟨gb226, 2, none⟩ = some (.int .i64 a2_2) ∧ w'.cell? ⟨gb227, 0, none⟩ = some (.bool a3_0) ∧ w'.cell? ⟨gb227, 1, none⟩ = some (.int .i64 a3_1) ∧ w'.cell? ⟨gb227, 2, none⟩ = some (.int .i64 a3_2)) ∧ (w'.heap[gb226]? = some (.cells #[.bool a2_0, .int .i64 a2_1, .int .i64 a2_2] 24 (0, 0))) ∧ (w'.heap[gb227]? = some (.cells #[.bool a3_0, .int .i64 a3_1, .int .i64 a3_2] 24 (0, 0))) ∧ (w'.heap[gb228]? = some (.cells #[.bool false, .int .i64 0, .int .i64 0] 24 (0, 0))) ∧ (w'.heap[gb229]? = some (.cells #[.bool false, .int .i64 0, .int .i64 0] 24 (0, 0))) ∧ (w'.heap[s_]? = some (.cells #[.bool false, .int .i64 0, .int .i64 0] 24 (0, 0))) ∧ (w.heap.size ≤ s_) ∧ (w.heap.size ≤ s_) ∧ (gb226 ≠ s_) ∧ (s_ ≠ gb226) ∧ (gb227 ≠ s_) ∧ (s_ ≠ gb227) ∧ (gb228 ≠ s_) ∧ (s_ ≠ gb228) ∧ (gb229 ≠ s_) ∧ (s_ ≠ gb229) ∧ (Below w.heap.size w w')) ?_ ?_
           rotate_left
           ·intro hJ3_9
            refine join_ (σ := Nat × Nat) 4 #[true, true, true, false, true, true, true, false, true, true, false, false] (fun s_ => [(10, .pointer (some ⟨s_.1, 0, none⟩)), (11, .pointer (some ⟨s_.2, 0, none⟩))]) (fun s_ w' => (w'.cell? ⟨gb226, 0, none⟩ = some (.bool a2_0) ∧ w'.cell? ⟨gb226, 1, none⟩ = some (.int .i64 a2_1) ∧ w'.cell? ⟨gb226, 2, none⟩ = some (.int .i64 a2_2) ∧ w'.cell? ⟨gb227, 0, none⟩ = some (.bool a3_0) ∧ w'.cell? ⟨gb227, 1, none⟩ = some (.int .i64 a3_1) ∧ w'.cell? ⟨gb227, 2, none⟩ = some (.int .i64 a3_2)) ∧ (w'.heap[gb226]? = some (.cells #[.bool a2_0, .int .i64 a2_1, .int .i64 a2_2] 24 (0, 0))) ∧ (w'.heap[gb227]? = some (.cells #[.bool a3_0, .int .i64 a3_1, .int .i64 a3_2] 24 (0, 0))) ∧ (w'.heap[gb228]? = some (.cells #[.bool false, .int .i64 0, .int .i64 0] 24 (0, 0))) ∧ (w'.heap[gb229]? = some (.cells #[.bool false, .int .i64 0, .int .i64 0] 24 (0, 0))) ∧ (w'.heap[s_.1]? = some (.cells #[.bool false, .int .i64 0, .int .i64 0] 24 (0, 0))) ∧ (w'.heap[s_.2]? = some (.cells #[.bool false, .int .i64 0, .int .i64 0] 24 (0, 0))) ∧ (w.heap.size ≤ s_.1) ∧ (w.heap.size ≤ s_.1) ∧ (gb226 ≠ s_.1) ∧ (s_.1 ≠ gb226) ∧ (gb227 ≠ s_.1) ∧ (s_.1 ≠ gb227) ∧ (gb228 ≠ s_.1) ∧ (s_.1 ≠ gb228) ∧ (gb229 ≠ s_.1) ∧ (s_.1 ≠ gb229) ∧ (s_.2 ≠ s_.1) ∧ (s_.1 ≠ s_.2) ∧ (w.heap.size ≤ s_.2) ∧ (w.heap.size ≤ s_.2) ∧ (gb226 ≠ s_.2) ∧ (s_.2 ≠ gb226) ∧ (gb227 ≠ s_.2) ∧ (s_.2 ≠ gb227) ∧ (gb228 ≠ s_.2) ∧ (s_.2 ≠ gb228) ∧ (gb229 ≠ s_.2) ∧ (s_.2 ≠ gb229) ∧ (Below w.heap.size w w')) ?_ ?_
            rotate_left
            ·intro hJ8_9
             refine join_ (σ := Unit) 5 #[true, true, true, true, true, true, true, false, false, false, false, false] (fun s_ => [(39, .agg #[.bool t241, .int .i64 t242, .int .i64 t243])]) (fun s_ w' => (w'.cell? ⟨gb226, 0, none⟩ = some (.bool a2_0) ∧ w'.cell? ⟨gb226, 1, none⟩ = some (.int .i64 a2_1) ∧ w'.cell? ⟨gb226, 2, none⟩ = some (.int .i64 a2_2) ∧ w'.cell? ⟨gb227, 0, none⟩ = some (.bool a3_0) ∧ w'.cell? ⟨gb227, 1, none⟩ = some (.int .i64 a3_1) ∧ w'.cell? ⟨gb227, 2, none⟩ = some (.int .i64 a3_2)) ∧ (w'.heap[gb226]? = some (.cells #[.bool a2_0, .int .i64 a2_1, .int .i64 a2_2] 24 (0, 0))) ∧ (w'.heap[gb227]? = some (.cells #[.bool a3_0, .int .i64 a3_1, .int .i64 a3_2] 24 (0, 0))) ∧ (w'.heap[gb228]? = some (.cells #[.bool false, .int .i64 0, .int .i64 0] 24 (0, 0))) ∧ (w'.heap[gb229]? = some (.cells #[.bool false, .int .i64 0, .int .i64 0] 24 (0, 0))) ∧ (Below w.heap.size w w')) ?_ ?_
             rotate_left
             ·intro hJ3
              refine join_ (σ := Nat) 5 #[true, true, true, false, true, true, true, false, true, false, false, false] (fun s_ => [(10, .pointer (some ⟨s_, 0, none⟩))]) (fun s_ w' => (w'.cell? ⟨gb226, 0, none⟩ = some (.bool a2_0) ∧ w'.cell? ⟨gb226, 1, none⟩ = some (.int .i64 a2_1) ∧ w'.cell? ⟨gb226, 2, none⟩ = some (.int .i64 a2_2) ∧ w'.cell? ⟨gb227, 0, none⟩ = some (.bool a3_0) ∧ w'.cell? ⟨gb227, 1, none⟩ = some (.int .i64 a3_1) ∧ w'.cell? ⟨gb227, 2, none⟩ = some (.int .i64 a3_2)) ∧ (w'.heap[gb226]? = some (.cells #[.bool a2_0, .int .i64 a2_1, .int .i64 a2_2] 24 (0, 0))) ∧ (w'.heap[gb227]? = some (.cells #[.bool a3_0, .int .i64 a3_1, .int .i64 a3_2] 24 (0, 0))) ∧ (w'.heap[gb228]? = some (.cells #[.bool false, .int .i64 0, .int .i64 0] 24 (0, 0))) ∧ (w'.heap[gb229]? = some (.cells #[.bool false, .int .i64 0, .int .i64 0] 24 (0, 0))) ∧ (w'.heap[s_]? = some (.cells #[.bool false, .int .i64 0, .int .i64 0] 24 (0, 0))) ∧ (w.heap.size ≤ s_) ∧ (w.heap.size ≤ s_) ∧ (gb226 ≠ s_) ∧ (s_ ≠ gb226) ∧ (gb227 ≠ s_) ∧ (s_ ≠ gb227) ∧ (gb228 ≠ s_) ∧ (s_ ≠ gb228) ∧ (gb229 ≠ s_) ∧ (s_ ≠ gb229) ∧ (Below w.heap.size w w')) ?_ ?_
              rotate_left
              ·intro hJ8
               refine join_ (σ := Nat) 5 #[true, true, true, false, true, true, true, false, false, true, false, false] (fun s_ => [(11, .pointer (some ⟨s_, 0, none⟩))]) (fun s_ w' => (w'.cell? ⟨gb226, 0, none⟩ = some (.bool a2_0) ∧ w'.cell? ⟨gb226, 1, none⟩ = some (.int .i64 a2_1) ∧ w'.cell? ⟨gb226, 2, none⟩ = some (.int .i64 a2_2) ∧ w'.cell? ⟨gb227, 0, none⟩ = some (.bool a3_0) ∧ w'.cell? ⟨gb227, 1, none⟩ = some (.int .i64 a3_1) ∧ w'.cell? ⟨gb227, 2, none⟩ = some (.int .i64 a3_2)) ∧ (w'.heap[gb226]? = some (.cells #[.bool a2_0, .int .i64 a2_1, .int .i64 a2_2] 24 (0, 0))) ∧ (w'.heap[gb227]? = some (.cells #[.bool a3_0, .int .i64 a3_1, .int .i64 a3_2] 24 (0, 0))) ∧ (w'.heap[gb228]? = some (.cells #[.bool false, .int .i64 0, .int .i64 0] 24 (0, 0))) ∧ (w'.heap[gb229]? = some (.cells #[.bool false, .int .i64 0, .int .i64 0] 24 (0, 0))) ∧ (w'.heap[s_]? = some (.cells #[.bool false, .int .i64 0, .int .i64 0] 24 (0, 0))) ∧ (w.heap.size ≤ s_) ∧ (w.heap.size ≤ s_) ∧ (gb226 ≠ s_) ∧ (s_ ≠ gb226) ∧ (gb227 ≠ s_) ∧ (s_ ≠ gb227) ∧ (gb228 ≠ s_) ∧ (s_ ≠ gb228) ∧ (gb229 ≠ s_) ∧ (s_ ≠ gb229) ∧ (Below w.heap.size w w')) ?_ ?_
               rotate_left
               ·intro hJ9
                refine three_ (i := 3) (j := 8) (k := 9) (Ni := some 39) (Nj := some 10) (Nk := some 11) #[true, true, true, true, true, true, true, false, false, false, false, false] #[true, true, true, false, true, true, true, false, true, false, false, false] #[true, true, true, false, true, true, true, false, false, true, false, false] rfl rfl rfl rfl rfl rfl (three_of HT_.out (by kernel_rfl)) (by decide) (by decide) (by decide) (fun K hK => ?_) (fun K hK => ?_) (fun K hK => ?_)
                ·skip
                 refine goes_ Try.func39 (by kernel_rfl) rfl #[.int .i64 a0, .agg #[.bool a2_0, .int .i64 a2_1, .int .i64 a2_2], .agg #[.bool a3_0, .int .i64 a3_1, .int .i64 a3_2]] (by rfl) rfl rfl (by (try simp only [List.map_toArray, List.map_cons, List.map_nil]); first | done | rfl) ?_
                 with_reducible refine (impl_SpanMeet.calls kj4 a0 a2_0 a2_1 a2_2 a3_0 a3_1 a3_2 t241 t242 t243 _ A63.out).mono ?_
                 rintro e w74 ⟨rfl, hb⟩
                 refine ⟨_, rfl, ?_⟩
                 have n0_ := A_ (blk_below (bz_ BK226.out) hb)
                 have n1_ := A_ (blk_below (bz_ BK227.out) hb)
                 have n2_ := A_ (blk_below (bz_ BK228.out) hb)
                 have n3_ := A_ (blk_below (bz_ BK229.out) hb)
                 have n4_ := A_ (below_step hB_ hb)
                 clear BK226 BK227
                 clear BK228 BK229 HB
                 have BK226 := n0_
                 have BK227 := n1_
                 have BK228 := n2_
                 have BK229 := n3_
                 have HB := n4_
                 clear n0_ n1_ n2_ n3_ n4_
                 (try clear hb)
                 (try clear hb2)
                 (try clear hk)
                 (try clear hi)
                 refine hK.out _ _ ⟨bc_ BK226.out 0, bc_ BK226.out 1, bc_ BK226.out 2, bc_ BK227.out 0, bc_ BK227.out 1, bc_ BK227.out 2⟩ (fun hHeld => ?_)
                 clear hK K
                 refine norm_ (a' := ?_) ?_ ?_
                 rotate_left
                 ·show Act.put _ (some 39) _ = _
                  simp only [Act.put, x1_, x2_, x3_, i64_w, i32_w]
                  rfl
                 exact norm_ (by simp only [putAll, Act.put, x1_, x2_, x3_] <;> rfl) (hJ3 () _ ⟨hHeld, (bz_ BK226.out), (bz_ BK227.out), (bz_ BK228.out), (bz_ BK229.out), hB_⟩)
                ·skip
                 refine box_step ?hg (N := 10) ?hd (cs := #[.bool false, .int .i64 0, .int .i64 0]) (t := 24) ?hr ?_; (case hd => rfl); (case hg => rfl); (case hr => first | (go_simp; done) | (go_simp; rfl))
                 intro gb247 hg w74 hbox hb
                 have n0_ := A_ (blk_below (bz_ BK226.out) hb)
                 have n1_ := A_ (blk_below (bz_ BK227.out) hb)
                 have n2_ := A_ (blk_below (bz_ BK228.out) hb)
                 have n3_ := A_ (blk_below (bz_ BK229.out) hb)
                 have n4_ := A_ (below_step hB_ hb)
                 have n5_ := A_ (hbox)
                 have n6_ := A_ (ge_ hg)
                 have GE247 := n6_
                 have NB226_247 := A_ (nl_ hg (bz_ BK226.out))
                 have NB247_226 := A_ (ng_ hg (bz_ BK226.out))
                 have NB227_247 := A_ (nl_ hg (bz_ BK227.out))
                 have NB247_227 := A_ (ng_ hg (bz_ BK227.out))
                 have NB228_247 := A_ (nl_ hg (bz_ BK228.out))
                 have NB247_228 := A_ (ng_ hg (bz_ BK228.out))
                 have NB229_247 := A_ (nl_ hg (bz_ BK229.out))
                 have NB247_229 := A_ (ng_ hg (bz_ BK229.out))
                 clear BK226 BK227
                 clear BK228 BK229 HB
                 have BK226 := n0_
                 have BK227 := n1_
                 have BK228 := n2_
                 have BK229 := n3_
                 have HB := n4_
                 have BK247 := n5_
                 have GW247 := n6_
                 clear n0_ n1_ n2_ n3_ n4_ n5_ n6_
                 clear hb hbox hg
                 refine hK.out _ _ ⟨bc_ BK226.out 0, bc_ BK226.out 1, bc_ BK226.out 2, bc_ BK227.out 0, bc_ BK227.out 1, bc_ BK227.out 2⟩ (fun hHeld => ?_)
                 clear hK K
                 refine norm_ (a' := ?_) ?_ ?_
                 rotate_left
                 ·show Act.put _ (some 10) _ = _
                  simp only [Act.put, x1_, x2_, x3_, i64_w, i32_w]
                  rfl
                 exact norm_ (by simp only [putAll, Act.put, x1_, x2_, x3_] <;> rfl) (hJ8 (gb247) _ ⟨hHeld, (bz_ BK226.out), (bz_ BK227.out), (bz_ BK228.out), (bz_ BK229.out), (bz_ BK247.out), GW247.out, GE247.out, NB226_247.out, NB247_226.out, NB227_247.out, NB247_227.out, NB228_247.out, NB247_228.out, NB229_247.out, NB247_229.out, hB_⟩)
                ·skip
                 refine box_step ?hg (N := 11) ?hd (cs := #[.bool false, .int .i64 0, .int .i64 0]) (t := 24) ?hr ?_; (case hd => rfl); (case hg => rfl); (case hr => first | (go_simp; done) | (go_simp; rfl))
                 intro gb248 hg w74 hbox hb
                 have n0_ := A_ (blk_below (bz_ BK226.out) hb)
                 have n1_ := A_ (blk_below (bz_ BK227.out) hb)
                 have n2_ := A_ (blk_below (bz_ BK228.out) hb)
                 have n3_ := A_ (blk_below (bz_ BK229.out) hb)
                 have n4_ := A_ (below_step hB_ hb)
                 have n5_ := A_ (hbox)
                 have n6_ := A_ (ge_ hg)
                 have GE248 := n6_
                 have NB226_248 := A_ (nl_ hg (bz_ BK226.out))
                 have NB248_226 := A_ (ng_ hg (bz_ BK226.out))
                 have NB227_248 := A_ (nl_ hg (bz_ BK227.out))
                 have NB248_227 := A_ (ng_ hg (bz_ BK227.out))
                 have NB228_248 := A_ (nl_ hg (bz_ BK228.out))
                 have NB248_228 := A_ (ng_ hg (bz_ BK228.out))
                 have NB229_248 := A_ (nl_ hg (bz_ BK229.out))
                 have NB248_229 := A_ (ng_ hg (bz_ BK229.out))
                 clear BK226 BK227
                 clear BK228 BK229 HB
                 have BK226 := n0_
                 have BK227 := n1_
                 have BK228 := n2_
                 have BK229 := n3_
                 have HB := n4_
                 have BK248 := n5_
                 have GW248 := n6_
                 clear n0_ n1_ n2_ n3_ n4_ n5_ n6_
                 clear hb hbox hg
                 refine hK.out _ _ ⟨bc_ BK226.out 0, bc_ BK226.out 1, bc_ BK226.out 2, bc_ BK227.out 0, bc_ BK227.out 1, bc_ BK227.out 2⟩ (fun hHeld => ?_)
                 clear hK K
                 refine norm_ (a' := ?_) ?_ ?_
                 rotate_left
                 ·show Act.put _ (some 11) _ = _
                  simp only [Act.put, x1_, x2_, x3_, i64_w, i32_w]
                  rfl
                 exact norm_ (by simp only [putAll, Act.put, x1_, x2_, x3_] <;> rfl) (hJ9 (gb248) _ ⟨hHeld, (bz_ BK226.out), (bz_ BK227.out), (bz_ BK228.out), (bz_ BK229.out), (bz_ BK248.out), GW248.out, GE248.out, NB226_248.out, NB248_226.out, NB227_248.out, NB248_227.out, NB228_248.out, NB248_228.out, NB229_248.out, NB248_229.out, hB_⟩)
               ·skip
                rintro gb248 w75 ⟨hS_, h0_, h1_, h2_, h3_, h4_, h5_, h6_, h7_, h8_, h9_, h10_, h11_, h12_, h13_, h14_, h15_⟩
                have n0_ : Aside0 (w75.heap[gb226]? = some (.cells #[.bool a2_0, .int .i64 a2_1, .int .i64 a2_2] 24 (0, 0))) := ⟨h0_⟩
                have n1_ : Aside0 (w75.heap[gb227]? = some (.cells #[.bool a3_0, .int .i64 a3_1, .int .i64 a3_2] 24 (0, 0))) := ⟨h1_⟩
                have n2_ : Aside0 (w75.heap[gb228]? = some (.cells #[.bool false, .int .i64 0, .int .i64 0] 24 (0, 0))) := ⟨h2_⟩
                have n3_ : Aside0 (w75.heap[gb229]? = some (.cells #[.bool false, .int .i64 0, .int .i64 0] 24 (0, 0))) := ⟨h3_⟩
                have n4_ : Aside0 (w75.heap[gb248]? = some (.cells #[.bool false, .int .i64 0, .int .i64 0] 24 (0, 0))) := ⟨h4_⟩
                have GW248 : Aside0 (w.heap.size ≤ gb248) := ⟨h5_⟩
                have GE248 : Aside0 (w.heap.size ≤ gb248) := ⟨h6_⟩
                have NB226_248 := A_ h7_
                have NB248_226 := A_ h8_
                have NB227_248 := A_ h9_
                have NB248_227 := A_ h10_
                have NB228_248 := A_ h11_
                have NB248_228 := A_ h12_
                have NB229_248 := A_ h13_
                have NB248_229 := A_ h14_
                have n15_ : Aside0 (Below w.heap.size w w75) := ⟨h15_⟩
                clear BK226 BK227
                clear BK228 BK229 HB
                clear h0_ h1_ h2_ h3_ h4_ h5_ h6_ h7_ h8_ h9_ h10_ h11_ h12_ h13_ h14_ h15_
                have BK226 := n0_
                have BK227 := n1_
                have BK228 := n2_
                have BK229 := n3_
                have BK248 := n4_
                have HB := n15_
                clear n0_ n1_ n2_ n3_ n4_ n15_
                have hHeld : w75.cell? ⟨gb226, 0, none⟩ = some (.bool a2_0) ∧ w75.cell? ⟨gb226, 1, none⟩ = some (.int .i64 a2_1) ∧ w75.cell? ⟨gb226, 2, none⟩ = some (.int .i64 a2_2) ∧ w75.cell? ⟨gb227, 0, none⟩ = some (.bool a3_0) ∧ w75.cell? ⟨gb227, 1, none⟩ = some (.int .i64 a3_1) ∧ w75.cell? ⟨gb227, 2, none⟩ = some (.int .i64 a3_2) := hS_
                refine norm_ (a' := ?_) ?_ ?_
                rotate_left
                ·simp only [putAll, Act.put, List.setIfInBounds_toArray, List.set_cons_zero, List.set_cons_succ]
                 rfl
                refine two_ (i := 3) (j := 8) (Ni := some 39) (Nj := some 10) #[true, true, true, true, true, true, true, false, false, true, false, false] #[true, true, true, false, true, true, true, false, true, true, false, false] rfl rfl rfl rfl (two_of HT_.out (by kernel_rfl)) (by decide) (by decide) (fun K hK => ?_) (fun K hK => ?_)
                ·skip
                 refine goes_ Try.func39 (by kernel_rfl) rfl #[.int .i64 a0, .agg #[.bool a2_0, .int .i64 a2_1, .int .i64 a2_2], .agg #[.bool a3_0, .int .i64 a3_1, .int .i64 a3_2]] (by rfl) rfl rfl (by (try simp only [List.map_toArray, List.map_cons, List.map_nil]); first | done | rfl) ?_
                 with_reducible refine (impl_SpanMeet.calls kj4 a0 a2_0 a2_1 a2_2 a3_0 a3_1 a3_2 t241 t242 t243 _ A63.out).mono ?_
                 rintro e w76 ⟨rfl, hb⟩
                 refine ⟨_, rfl, ?_⟩
                 have n0_ := A_ (blk_below (bz_ BK226.out) hb)
                 have n1_ := A_ (blk_below (bz_ BK227.out) hb)
                 have n2_ := A_ (blk_below (bz_ BK228.out) hb)
                 have n3_ := A_ (blk_below (bz_ BK229.out) hb)
                 have n4_ := A_ (blk_below (bz_ BK248.out) hb)
                 have n5_ := A_ (below_step hB_ hb)
                 clear BK226 BK227
                 clear BK228 BK229
                 clear BK248 HB
                 have BK226 := n0_
                 have BK227 := n1_
                 have BK228 := n2_
                 have BK229 := n3_
                 have BK248 := n4_
                 have HB := n5_
                 clear n0_ n1_ n2_ n3_ n4_ n5_
                 (try clear hb)
                 (try clear hb2)
                 (try clear hk)
                 (try clear hi)
                 refine hK.out _ _ ⟨bc_ BK226.out 0, bc_ BK226.out 1, bc_ BK226.out 2, bc_ BK227.out 0, bc_ BK227.out 1, bc_ BK227.out 2⟩ (fun hHeld => ?_)
                 clear hK K
                 refine norm_ (a' := ?_) ?_ ?_
                 rotate_left
                 ·show Act.put _ (some 39) _ = _
                  simp only [Act.put, x1_, x2_, x3_, i64_w, i32_w]
                  rfl
                 exact norm_ (by simp only [putAll, Act.put, x1_, x2_, x3_] <;> rfl) (hJ3_9 (gb248) _ ⟨hHeld, (bz_ BK226.out), (bz_ BK227.out), (bz_ BK228.out), (bz_ BK229.out), (bz_ BK248.out), GW248.out, GE248.out, NB226_248.out, NB248_226.out, NB227_248.out, NB248_227.out, NB228_248.out, NB248_228.out, NB229_248.out, NB248_229.out, hB_⟩)
                ·skip
                 refine box_step ?hg (N := 10) ?hd (cs := #[.bool false, .int .i64 0, .int .i64 0]) (t := 24) ?hr ?_; (case hd => rfl); (case hg => rfl); (case hr => first | (go_simp; done) | (go_simp; rfl))
                 intro gb247 hg w76 hbox hb
                 have n0_ := A_ (blk_below (bz_ BK226.out) hb)
                 have n1_ := A_ (blk_below (bz_ BK227.out) hb)
                 have n2_ := A_ (blk_below (bz_ BK228.out) hb)
                 have n3_ := A_ (blk_below (bz_ BK229.out) hb)
                 have n4_ := A_ (blk_below (bz_ BK248.out) hb)
                 have n5_ := A_ (below_step hB_ hb)
                 have n6_ := A_ (hbox)
                 have n7_ := A_ (ge_ hg)
                 have GE247 := n7_
                 have NB226_247 := A_ (nl_ hg (bz_ BK226.out))
                 have NB247_226 := A_ (ng_ hg (bz_ BK226.out))
                 have NB227_247 := A_ (nl_ hg (bz_ BK227.out))
                 have NB247_227 := A_ (ng_ hg (bz_ BK227.out))
                 have NB228_247 := A_ (nl_ hg (bz_ BK228.out))
                 have NB247_228 := A_ (ng_ hg (bz_ BK228.out))
                 have NB229_247 := A_ (nl_ hg (bz_ BK229.out))
                 have NB247_229 := A_ (ng_ hg (bz_ BK229.out))
                 have NB248_247 := A_ (nl_ hg (bz_ BK248.out))
                 have NB247_248 := A_ (ng_ hg (bz_ BK248.out))
                 clear BK226 BK227
                 clear BK228 BK229
                 clear BK248 HB
                 have BK226 := n0_
                 have BK227 := n1_
                 have BK228 := n2_
                 have BK229 := n3_
                 have BK248 := n4_
                 have HB := n5_
                 have BK247 := n6_
                 have GW247 := n7_
                 clear n0_ n1_ n2_ n3_ n4_ n5_ n6_ n7_
                 clear hb hbox hg
                 refine hK.out _ _ ⟨bc_ BK226.out 0, bc_ BK226.out 1, bc_ BK226.out 2, bc_ BK227.out 0, bc_ BK227.out 1, bc_ BK227.out 2⟩ (fun hHeld => ?_)
                 clear hK K
                 refine norm_ (a' := ?_) ?_ ?_
                 rotate_left
                 ·show Act.put _ (some 10) _ = _
                  simp only [Act.put, x1_, x2_, x3_, i64_w, i32_w]
                  rfl
                 exact norm_ (by simp only [putAll, Act.put, x1_, x2_, x3_] <;> rfl) (hJ8_9 (gb247, gb248) _ ⟨hHeld, (bz_ BK226.out), (bz_ BK227.out), (bz_ BK228.out), (bz_ BK229.out), (bz_ BK247.out), (bz_ BK248.out), GW247.out, GE247.out, NB226_247.out, NB247_226.out, NB227_247.out, NB247_227.out, NB228_247.out, NB247_228.out, NB229_247.out, NB247_229.out, NB248_247.out, NB247_248.out, GW248.out, GE248.out, NB226_248.out, NB248_226.out, NB227_248.out, NB248_227.out, NB228_248.out, NB248_228.out, NB229_248.out, NB248_229.out, hB_⟩)
              ·skip
               rintro gb247 w75 ⟨hS_, h0_, h1_, h2_, h3_, h4_, h5_, h6_, h7_, h8_, h9_, h10_, h11_, h12_, h13_, h14_, h15_⟩
               have n0_ : Aside0 (w75.heap[gb226]? = some (.cells #[.bool a2_0, .int .i64 a2_1, .int .i64 a2_2] 24 (0, 0))) := ⟨h0_⟩
               have n1_ : Aside0 (w75.heap[gb227]? = some (.cells #[.bool a3_0, .int .i64 a3_1, .int .i64 a3_2] 24 (0, 0))) := ⟨h1_⟩
               have n2_ : Aside0 (w75.heap[gb228]? = some (.cells #[.bool false, .int .i64 0, .int .i64 0] 24 (0, 0))) := ⟨h2_⟩
               have n3_ : Aside0 (w75.heap[gb229]? = some (.cells #[.bool false, .int .i64 0, .int .i64 0] 24 (0, 0))) := ⟨h3_⟩
               have n4_ : Aside0 (w75.heap[gb247]? = some (.cells #[.bool false, .int .i64 0, .int .i64 0] 24 (0, 0))) := ⟨h4_⟩
               have GW247 : Aside0 (w.heap.size ≤ gb247) := ⟨h5_⟩
               have GE247 : Aside0 (w.heap.size ≤ gb247) := ⟨h6_⟩
               have NB226_247 := A_ h7_
               have NB247_226 := A_ h8_
               have NB227_247 := A_ h9_
               have NB247_227 := A_ h10_
               have NB228_247 := A_ h11_
               have NB247_228 := A_ h12_
               have NB229_247 := A_ h13_
               have NB247_229 := A_ h14_
               have n15_ : Aside0 (Below w.heap.size w w75) := ⟨h15_⟩
               clear BK226 BK227
               clear BK228 BK229 HB
               clear h0_ h1_ h2_ h3_ h4_ h5_ h6_ h7_ h8_ h9_ h10_ h11_ h12_ h13_ h14_ h15_
               have BK226 := n0_
               have BK227 := n1_
               have BK228 := n2_
               have BK229 := n3_
               have BK247 := n4_
               have HB := n15_
               clear n0_ n1_ n2_ n3_ n4_ n15_
               have hHeld : w75.cell? ⟨gb226, 0, none⟩ = some (.bool a2_0) ∧ w75.cell? ⟨gb226, 1, none⟩ = some (.int .i64 a2_1) ∧ w75.cell? ⟨gb226, 2, none⟩ = some (.int .i64 a2_2) ∧ w75.cell? ⟨gb227, 0, none⟩ = some (.bool a3_0) ∧ w75.cell? ⟨gb227, 1, none⟩ = some (.int .i64 a3_1) ∧ w75.cell? ⟨gb227, 2, none⟩ = some (.int .i64 a3_2) := hS_
               refine norm_ (a' := ?_) ?_ ?_
               rotate_left
               ·simp only [putAll, Act.put, List.setIfInBounds_toArray, List.set_cons_zero, List.set_cons_succ]
                rfl
               refine two_ (i := 3) (j := 9) (Ni := some 39) (Nj := some 11) #[true, true, true, true, true, true, true, false, true, false, false, false] #[true, true, true, false, true, true, true, false, true, true, false, false] rfl rfl rfl rfl (two_of HT_.out (by kernel_rfl)) (by decide) (by decide) (fun K hK => ?_) (fun K hK => ?_)
               ·skip
                refine goes_ Try.func39 (by kernel_rfl) rfl #[.int .i64 a0, .agg #[.bool a2_0, .int .i64 a2_1, .int .i64 a2_2], .agg #[.bool a3_0, .int .i64 a3_1, .int .i64 a3_2]] (by rfl) rfl rfl (by (try simp only [List.map_toArray, List.map_cons, List.map_nil]); first | done | rfl) ?_
                with_reducible refine (impl_SpanMeet.calls kj4 a0 a2_0 a2_1 a2_2 a3_0 a3_1 a3_2 t241 t242 t243 _ A63.out).mono ?_
                rintro e w76 ⟨rfl, hb⟩
                refine ⟨_, rfl, ?_⟩
                have n0_ := A_ (blk_below (bz_ BK226.out) hb)
                have n1_ := A_ (blk_below (bz_ BK227.out) hb)
                have n2_ := A_ (blk_below (bz_ BK228.out) hb)
                have n3_ := A_ (blk_below (bz_ BK229.out) hb)
                have n4_ := A_ (blk_below (bz_ BK247.out) hb)
                have n5_ := A_ (below_step hB_ hb)
                clear BK226 BK227
                clear BK228 BK229
                clear BK247 HB
                have BK226 := n0_
                have BK227 := n1_
                have BK228 := n2_
                have BK229 := n3_
                have BK247 := n4_
                have HB := n5_
                clear n0_ n1_ n2_ n3_ n4_ n5_
                (try clear hb)
                (try clear hb2)
                (try clear hk)
                (try clear hi)
                refine hK.out _ _ ⟨bc_ BK226.out 0, bc_ BK226.out 1, bc_ BK226.out 2, bc_ BK227.out 0, bc_ BK227.out 1, bc_ BK227.out 2⟩ (fun hHeld => ?_)
                clear hK K
                refine norm_ (a' := ?_) ?_ ?_
                rotate_left
                ·show Act.put _ (some 39) _ = _
                 simp only [Act.put, x1_, x2_, x3_, i64_w, i32_w]
                 rfl
                exact norm_ (by simp only [putAll, Act.put, x1_, x2_, x3_] <;> rfl) (hJ3_8 (gb247) _ ⟨hHeld, (bz_ BK226.out), (bz_ BK227.out), (bz_ BK228.out), (bz_ BK229.out), (bz_ BK247.out), GW247.out, GE247.out, NB226_247.out, NB247_226.out, NB227_247.out, NB247_227.out, NB228_247.out, NB247_228.out, NB229_247.out, NB247_229.out, hB_⟩)
               ·skip
                refine box_step ?hg (N := 11) ?hd (cs := #[.bool false, .int .i64 0, .int .i64 0]) (t := 24) ?hr ?_; (case hd => rfl); (case hg => rfl); (case hr => first | (go_simp; done) | (go_simp; rfl))
                intro gb248 hg w76 hbox hb
                have n0_ := A_ (blk_below (bz_ BK226.out) hb)
                have n1_ := A_ (blk_below (bz_ BK227.out) hb)
                have n2_ := A_ (blk_below (bz_ BK228.out) hb)
                have n3_ := A_ (blk_below (bz_ BK229.out) hb)
                have n4_ := A_ (blk_below (bz_ BK247.out) hb)
                have n5_ := A_ (below_step hB_ hb)
                have n6_ := A_ (hbox)
                have n7_ := A_ (ge_ hg)
                have GE248 := n7_
                have NB226_248 := A_ (nl_ hg (bz_ BK226.out))
                have NB248_226 := A_ (ng_ hg (bz_ BK226.out))
                have NB227_248 := A_ (nl_ hg (bz_ BK227.out))
                have NB248_227 := A_ (ng_ hg (bz_ BK227.out))
                have NB228_248 := A_ (nl_ hg (bz_ BK228.out))
                have NB248_228 := A_ (ng_ hg (bz_ BK228.out))
                have NB229_248 := A_ (nl_ hg (bz_ BK229.out))
                have NB248_229 := A_ (ng_ hg (bz_ BK229.out))
                have NB247_248 := A_ (nl_ hg (bz_ BK247.out))
                have NB248_247 := A_ (ng_ hg (bz_ BK247.out))
                clear BK226 BK227
                clear BK228 BK229
                clear BK247 HB
                have BK226 := n0_
                have BK227 := n1_
                have BK228 := n2_
                have BK229 := n3_
                have BK247 := n4_
                have HB := n5_
                have BK248 := n6_
                have GW248 := n7_
                clear n0_ n1_ n2_ n3_ n4_ n5_ n6_ n7_
                clear hb hbox hg
                refine hK.out _ _ ⟨bc_ BK226.out 0, bc_ BK226.out 1, bc_ BK226.out 2, bc_ BK227.out 0, bc_ BK227.out 1, bc_ BK227.out 2⟩ (fun hHeld => ?_)
                clear hK K
                refine norm_ (a' := ?_) ?_ ?_
                rotate_left
                ·show Act.put _ (some 11) _ = _
                 simp only [Act.put, x1_, x2_, x3_, i64_w, i32_w]
                 rfl
                exact norm_ (by simp only [putAll, Act.put, x1_, x2_, x3_] <;> rfl) (hJ8_9 (gb247, gb248) _ ⟨hHeld, (bz_ BK226.out), (bz_ BK227.out), (bz_ BK228.out), (bz_ BK229.out), (bz_ BK247.out), (bz_ BK248.out), GW247.out, GE247.out, NB226_247.out, NB247_226.out, NB227_247.out, NB247_227.out, NB228_247.out, NB247_228.out, NB229_247.out, NB247_229.out, NB248_247.out, NB247_248.out, GW248.out, GE248.out, NB226_248.out, NB248_226.out, NB227_248.out, NB248_227.out, NB228_248.out, NB248_228.out, NB229_248.out, NB248_229.out, hB_⟩)
             ·skip
              rintro _ w75 ⟨hS_, h0_, h1_, h2_, h3_, h4_⟩
              have n0_ : Aside0 (w75.heap[gb226]? = some (.cells #[.bool a2_0, .int .i64 a2_1, .int .i64 a2_2] 24 (0, 0))) := ⟨h0_⟩
              have n1_ : Aside0 (w75.heap[gb227]? = some (.cells #[.bool a3_0, .int .i64 a3_1, .int .i64 a3_2] 24 (0, 0))) := ⟨h1_⟩
              have n2_ : Aside0 (w75.heap[gb228]? = some (.cells #[.bool false, .int .i64 0, .int .i64 0] 24 (0, 0))) := ⟨h2_⟩
              have n3_ : Aside0 (w75.heap[gb229]? = some (.cells #[.bool false, .int .i64 0, .int .i64 0] 24 (0, 0))) := ⟨h3_⟩
              have n4_ : Aside0 (Below w.heap.size w w75) := ⟨h4_⟩
              clear BK226 BK227
              clear BK228 BK229 HB
              clear h0_ h1_ h2_ h3_ h4_
              have BK226 := n0_
              have BK227 := n1_
              have BK228 := n2_
              have BK229 := n3_
              have HB := n4_
              clear n0_ n1_ n2_ n3_ n4_
              have hHeld : w75.cell? ⟨gb226, 0, none⟩ = some (.bool a2_0) ∧ w75.cell? ⟨gb226, 1, none⟩ = some (.int .i64 a2_1) ∧ w75.cell? ⟨gb226, 2, none⟩ = some (.int .i64 a2_2) ∧ w75.cell? ⟨gb227, 0, none⟩ = some (.bool a3_0) ∧ w75.cell? ⟨gb227, 1, none⟩ = some (.int .i64 a3_1) ∧ w75.cell? ⟨gb227, 2, none⟩ = some (.int .i64 a3_2) := hS_
              refine norm_ (a' := ?_) ?_ ?_
              rotate_left
              ·simp only [putAll, Act.put, List.setIfInBounds_toArray, List.set_cons_zero, List.set_cons_succ]
               rfl
              refine three_ (i := 7) (j := 8) (k := 9) (Ni := some 43) (Nj := some 10) (Nk := some 11) #[true, true, true, true, true, true, true, true, false, false, false, false] #[true, true, true, true, true, true, true, false, true, false, false, false] #[true, true, true, true, true, true, true, false, false, true, false, false] rfl rfl rfl rfl rfl rfl (three_of HT_.out (by kernel_rfl)) (by decide) (by decide) (by decide) (fun K hK => ?_) (fun K hK => ?_) (fun K hK => ?_)
              ·skip
               refine goes_ Try.func39 (by kernel_rfl) rfl #[.int .i64 a0, .agg #[.bool a2_0, .int .i64 a2_1, .int .i64 a2_2], .agg #[.bool a3_0, .int .i64 a3_1, .int .i64 a3_2]] (by rfl) rfl rfl (by (try simp only [List.map_toArray, List.map_cons, List.map_nil]); first | done | rfl) ?_
               with_reducible refine (impl_SpanMeet.calls kj4 a0 a2_0 a2_1 a2_2 a3_0 a3_1 a3_2 t241 t242 t243 _ A64.out).mono ?_
               rintro e w76 ⟨rfl, hb⟩
               refine ⟨_, rfl, ?_⟩
               have n0_ := A_ (blk_below (bz_ BK226.out) hb)
               have n1_ := A_ (blk_below (bz_ BK227.out) hb)
               have n2_ := A_ (blk_below (bz_ BK228.out) hb)
               have n3_ := A_ (blk_below (bz_ BK229.out) hb)
               have n4_ := A_ (below_step hB_ hb)
               clear BK226 BK227
               clear BK228 BK229 HB
               have BK226 := n0_
               have BK227 := n1_
               have BK228 := n2_
               have BK229 := n3_
               have HB := n4_
               clear n0_ n1_ n2_ n3_ n4_
               (try clear hb)
               (try clear hb2)
               (try clear hk)
               (try clear hi)
               refine hK.out _ _ ⟨bc_ BK226.out 0, bc_ BK226.out 1, bc_ BK226.out 2, bc_ BK227.out 0, bc_ BK227.out 1, bc_ BK227.out 2⟩ (fun hHeld => ?_)
               clear hK K
               refine norm_ (a' := ?_) ?_ ?_
               rotate_left
               ·show Act.put _ (some 43) _ = _
                simp only [Act.put, x1_, x2_, x3_, i64_w, i32_w]
                rfl
               exact norm_ (by simp only [putAll, Act.put, x1_, x2_, x3_] <;> rfl) (hJ3_7 () _ ⟨hHeld, (bz_ BK226.out), (bz_ BK227.out), (bz_ BK228.out), (bz_ BK229.out), hB_⟩)
              ·skip
               refine box_step ?hg (N := 10) ?hd (cs := #[.bool false, .int .i64 0, .int .i64 0]) (t := 24) ?hr ?_; (case hd => rfl); (case hg => rfl); (case hr => first | (go_simp; done) | (go_simp; rfl))
               intro gb247 hg w76 hbox hb
               have n0_ := A_ (blk_below (bz_ BK226.out) hb)
               have n1_ := A_ (blk_below (bz_ BK227.out) hb)
               have n2_ := A_ (blk_below (bz_ BK228.out) hb)
               have n3_ := A_ (blk_below (bz_ BK229.out) hb)
               have n4_ := A_ (below_step hB_ hb)
               have n5_ := A_ (hbox)
               have n6_ := A_ (ge_ hg)
               have GE247 := n6_
               have NB226_247 := A_ (nl_ hg (bz_ BK226.out))
               have NB247_226 := A_ (ng_ hg (bz_ BK226.out))
               have NB227_247 := A_ (nl_ hg (bz_ BK227.out))
               have NB247_227 := A_ (ng_ hg (bz_ BK227.out))
               have NB228_247 := A_ (nl_ hg (bz_ BK228.out))
               have NB247_228 := A_ (ng_ hg (bz_ BK228.out))
               have NB229_247 := A_ (nl_ hg (bz_ BK229.out))
               have NB247_229 := A_ (ng_ hg (bz_ BK229.out))
               clear BK226 BK227
               clear BK228 BK229 HB
               have BK226 := n0_
               have BK227 := n1_
               have BK228 := n2_
               have BK229 := n3_
               have HB := n4_
               have BK247 := n5_
               have GW247 := n6_
               clear n0_ n1_ n2_ n3_ n4_ n5_ n6_
               clear hb hbox hg
               refine hK.out _ _ ⟨bc_ BK226.out 0, bc_ BK226.out 1, bc_ BK226.out 2, bc_ BK227.out 0, bc_ BK227.out 1, bc_ BK227.out 2⟩ (fun hHeld => ?_)
               clear hK K
               refine norm_ (a' := ?_) ?_ ?_
               rotate_left
               ·show Act.put _ (some 10) _ = _
                simp only [Act.put, x1_, x2_, x3_, i64_w, i32_w]
                rfl
               exact norm_ (by simp only [putAll, Act.put, x1_, x2_, x3_] <;> rfl) (hJ3_8 (gb247) _ ⟨hHeld, (bz_ BK226.out), (bz_ BK227.out), (bz_ BK228.out), (bz_ BK229.out), (bz_ BK247.out), GW247.out, GE247.out, NB226_247.out, NB247_226.out, NB227_247.out, NB247_227.out, NB228_247.out, NB247_228.out, NB229_247.out, NB247_229.out, hB_⟩)
              ·skip
               refine box_step ?hg (N := 11) ?hd (cs := #[.bool false, .int .i64 0, .int .i64 0]) (t := 24) ?hr ?_; (case hd => rfl); (case hg => rfl); (case hr => first | (go_simp; done) | (go_simp; rfl))
               intro gb248 hg w76 hbox hb
               have n0_ := A_ (blk_below (bz_ BK226.out) hb)
               have n1_ := A_ (blk_below (bz_ BK227.out) hb)
               have n2_ := A_ (blk_below (bz_ BK228.out) hb)
               have n3_ := A_ (blk_below (bz_ BK229.out) hb)
               have n4_ := A_ (below_step hB_ hb)
               have n5_ := A_ (hbox)
               have n6_ := A_ (ge_ hg)
               have GE248 := n6_
               have NB226_248 := A_ (nl_ hg (bz_ BK226.out))
               have NB248_226 := A_ (ng_ hg (bz_ BK226.out))
               have NB227_248 := A_ (nl_ hg (bz_ BK227.out))
               have NB248_227 := A_ (ng_ hg (bz_ BK227.out))
               have NB228_248 := A_ (nl_ hg (bz_ BK228.out))
               have NB248_228 := A_ (ng_ hg (bz_ BK228.out))
               have NB229_248 := A_ (nl_ hg (bz_ BK229.out))
               have NB248_229 := A_ (ng_ hg (bz_ BK229.out))
               clear BK226 BK227
               clear BK228 BK229 HB
               have BK226 := n0_
               have BK227 := n1_
               have BK228 := n2_
               have BK229 := n3_
               have HB := n4_
               have BK248 := n5_
               have GW248 := n6_
               clear n0_ n1_ n2_ n3_ n4_ n5_ n6_
               clear hb hbox hg
               refine hK.out _ _ ⟨bc_ BK226.out 0, bc_ BK226.out 1, bc_ BK226.out 2, bc_ BK227.out 0, bc_ BK227.out 1, bc_ BK227.out 2⟩ (fun hHeld => ?_)
               clear hK K
               refine norm_ (a' := ?_) ?_ ?_
               rotate_left
               ·show Act.put _ (some 11) _ = _
                simp only [Act.put, x1_, x2_, x3_, i64_w, i32_w]
                rfl
               exact norm_ (by simp only [putAll, Act.put, x1_, x2_, x3_] <;> rfl) (hJ3_9 (gb248) _ ⟨hHeld, (bz_ BK226.out), (bz_ BK227.out), (bz_ BK228.out), (bz_ BK229.out), (bz_ BK248.out), GW248.out, GE248.out, NB226_248.out, NB248_226.out, NB227_248.out, NB248_227.out, NB228_248.out, NB248_228.out, NB229_248.out, NB248_229.out, hB_⟩)
            ·skip
             rintro ⟨gb247, gb248⟩ w76 ⟨hS_, h0_, h1_, h2_, h3_, h4_, h5_, h6_, h7_, h8_, h9_, h10_, h11_, h12_, h13_, h14_, h15_, h16_, h17_, h18_, h19_, h20_, h21_, h22_, h23_, h24_, h25_, h26_, h27_, h28_⟩
             have n0_ : Aside0 (w76.heap[gb226]? = some (.cells #[.bool a2_0, .int .i64 a2_1, .int .i64 a2_2] 24 (0, 0))) := ⟨h0_⟩
             have n1_ : Aside0 (w76.heap[gb227]? = some (.cells #[.bool a3_0, .int .i64 a3_1, .int .i64 a3_2] 24 (0, 0))) := ⟨h1_⟩
             have n2_ : Aside0 (w76.heap[gb228]? = some (.cells #[.bool false, .int .i64 0, .int .i64 0] 24 (0, 0))) := ⟨h2_⟩
             have n3_ : Aside0 (w76.heap[gb229]? = some (.cells #[.bool false, .int .i64 0, .int .i64 0] 24 (0, 0))) := ⟨h3_⟩
             have n4_ : Aside0 (w76.heap[gb247]? = some (.cells #[.bool false, .int .i64 0, .int .i64 0] 24 (0, 0))) := ⟨h4_⟩
             have n5_ : Aside0 (w76.heap[gb248]? = some (.cells #[.bool false, .int .i64 0, .int .i64 0] 24 (0, 0))) := ⟨h5_⟩
             have GW247 : Aside0 (w.heap.size ≤ gb247) := ⟨h6_⟩
             have GE247 : Aside0 (w.heap.size ≤ gb247) := ⟨h7_⟩
             have NB226_247 := A_ h8_
             have NB247_226 := A_ h9_
             have NB227_247 := A_ h10_
             have NB247_227 := A_ h11_
             have NB228_247 := A_ h12_
             have NB247_228 := A_ h13_
             have NB229_247 := A_ h14_
             have NB247_229 := A_ h15_
             have NB248_247 := A_ h16_
             have NB247_248 := A_ h17_
             have GW248 : Aside0 (w.heap.size ≤ gb248) := ⟨h18_⟩
             have GE248 : Aside0 (w.heap.size ≤ gb248) := ⟨h19_⟩
             have NB226_248 := A_ h20_
             have NB248_226 := A_ h21_
             have NB227_248 := A_ h22_
             have NB248_227 := A_ h23_
             have NB228_248 := A_ h24_
             have NB248_228 := A_ h25_
             have NB229_248 := A_ h26_
             have NB248_229 := A_ h27_
             have n28_ : Aside0 (Below w.heap.size w w76) := ⟨h28_⟩
             clear BK226 BK227
             clear BK228 BK229 HB
             clear h0_ h1_ h2_ h3_ h4_ h5_ h6_ h7_ h8_ h9_ h10_ h11_ h12_ h13_ h14_ h15_ h16_ h17_ h18_ h19_ h20_ h21_ h22_ h23_ h24_ h25_ h26_ h27_ h28_
             have BK226 := n0_
             have BK227 := n1_
             have BK228 := n2_
             have BK229 := n3_
             have BK247 := n4_
             have BK248 := n5_
             have HB := n28_
             clear n0_ n1_ n2_ n3_ n4_ n5_ n28_
             have hHeld : w76.cell? ⟨gb226, 0, none⟩ = some (.bool a2_0) ∧ w76.cell? ⟨gb226, 1, none⟩ = some (.int .i64 a2_1) ∧ w76.cell? ⟨gb226, 2, none⟩ = some (.int .i64 a2_2) ∧ w76.cell? ⟨gb227, 0, none⟩ = some (.bool a3_0) ∧ w76.cell? ⟨gb227, 1, none⟩ = some (.int .i64 a3_1) ∧ w76.cell? ⟨gb227, 2, none⟩ = some (.int .i64 a3_2) := hS_
             refine norm_ (a' := ?_) ?_ ?_
             rotate_left
             ·simp only [putAll, Act.put, List.setIfInBounds_toArray, List.set_cons_zero, List.set_cons_succ]
              rfl
             refine one_ (i := 3) (N := some 39) #[true, true, true, true, true, true, true, false, true, true, false, false] rfl rfl (one_of HT_.out (by kernel_rfl)) (by decide) (fun K hK => ?_)
             refine goes_ Try.func39 (by kernel_rfl) rfl #[.int .i64 a0, .agg #[.bool a2_0, .int .i64 a2_1, .int .i64 a2_2], .agg #[.bool a3_0, .int .i64 a3_1, .int .i64 a3_2]] (by rfl) rfl rfl (by (try simp only [List.map_toArray, List.map_cons, List.map_nil]); first | done | rfl) ?_
             with_reducible refine (impl_SpanMeet.calls kj4 a0 a2_0 a2_1 a2_2 a3_0 a3_1 a3_2 t241 t242 t243 _ A63.out).mono ?_
             rintro e w77 ⟨rfl, hb⟩
             refine ⟨_, rfl, ?_⟩
             have n0_ := A_ (blk_below (bz_ BK226.out) hb)
             have n1_ := A_ (blk_below (bz_ BK227.out) hb)
             have n2_ := A_ (blk_below (bz_ BK228.out) hb)
             have n3_ := A_ (blk_below (bz_ BK229.out) hb)
             have n4_ := A_ (blk_below (bz_ BK247.out) hb)
             have n5_ := A_ (blk_below (bz_ BK248.out) hb)
             have n6_ := A_ (below_step hB_ hb)
             clear BK226 BK227
             clear BK228 BK229
             clear BK247 BK248 HB
             have BK226 := n0_
             have BK227 := n1_
             have BK228 := n2_
             have BK229 := n3_
             have BK247 := n4_
             have BK248 := n5_
             have HB := n6_
             clear n0_ n1_ n2_ n3_ n4_ n5_ n6_
             (try clear hb)
             (try clear hb2)
             (try clear hk)
             (try clear hi)
             refine hK.out _ _ ⟨bc_ BK226.out 0, bc_ BK226.out 1, bc_ BK226.out 2, bc_ BK227.out 0, bc_ BK227.out 1, bc_ BK227.out 2⟩ (fun hHeld => ?_)
             clear hK K
             refine norm_ (a' := ?_) ?_ ?_
             rotate_left
             ·show Act.put _ (some 39) _ = _
              simp only [Act.put, x1_, x2_, x3_, i64_w, i32_w]
              rfl
             exact norm_ (by simp only [putAll, Act.put, x1_, x2_, x3_] <;> rfl) (hJ3_8_9 (gb247, gb248) _ ⟨hHeld, (bz_ BK226.out), (bz_ BK227.out), (bz_ BK228.out), (bz_ BK229.out), (bz_ BK247.out), (bz_ BK248.out), GW247.out, GE247.out, NB226_247.out, NB247_226.out, NB227_247.out, NB247_227.out, NB228_247.out, NB247_228.out, NB229_247.out, NB247_229.out, NB248_247.out, NB247_248.out, GW248.out, GE248.out, NB226_248.out, NB248_226.out, NB227_248.out, NB248_227.out, NB228_248.out, NB248_228.out, NB229_248.out, NB248_229.out, hB_⟩)
           ·skip
            rintro gb248 w76 ⟨hS_, h0_, h1_, h2_, h3_, h4_, h5_, h6_, h7_, h8_, h9_, h10_, h11_, h12_, h13_, h14_, h15_⟩
            have n0_ : Aside0 (w76.heap[gb226]? = some (.cells #[.bool a2_0, .int .i64 a2_1, .int .i64 a2_2] 24 (0, 0))) := ⟨h0_⟩
            have n1_ : Aside0 (w76.heap[gb227]? = some (.cells #[.bool a3_0, .int .i64 a3_1, .int .i64 a3_2] 24 (0, 0))) := ⟨h1_⟩
            have n2_ : Aside0 (w76.heap[gb228]? = some (.cells #[.bool false, .int .i64 0, .int .i64 0] 24 (0, 0))) := ⟨h2_⟩
            have n3_ : Aside0 (w76.heap[gb229]? = some (.cells #[.bool false, .int .i64 0, .int .i64 0] 24 (0, 0))) := ⟨h3_⟩
            have n4_ : Aside0 (w76.heap[gb248]? = some (.cells #[.bool false, .int .i64 0, .int .i64 0] 24 (0, 0))) := ⟨h4_⟩
            have GW248 : Aside0 (w.heap.size ≤ gb248) := ⟨h5_⟩
            have GE248 : Aside0 (w.heap.size ≤ gb248) := ⟨h6_⟩
            have NB226_248 := A_ h7_
            have NB248_226 := A_ h8_
            have NB227_248 := A_ h9_
            have NB248_227 := A_ h10_
            have NB228_248 := A_ h11_
            have NB248_228 := A_ h12_
            have NB229_248 := A_ h13_
            have NB248_229 := A_ h14_
            have n15_ : Aside0 (Below w.heap.size w w76) := ⟨h15_⟩
            clear BK226 BK227
            clear BK228 BK229 HB
            clear h0_ h1_ h2_ h3_ h4_ h5_ h6_ h7_ h8_ h9_ h10_ h11_ h12_ h13_ h14_ h15_
            have BK226 := n0_
            have BK227 := n1_
            have BK228 := n2_
            have BK229 := n3_
            have BK248 := n4_
            have HB := n15_
            clear n0_ n1_ n2_ n3_ n4_ n15_
            have hHeld : w76.cell? ⟨gb226, 0, none⟩ = some (.bool a2_0) ∧ w76.cell? ⟨gb226, 1, none⟩ = some (.int .i64 a2_1) ∧ w76.cell? ⟨gb226, 2, none⟩ = some (.int .i64 a2_2) ∧ w76.cell? ⟨gb227, 0, none⟩ = some (.bool a3_0) ∧ w76.cell? ⟨gb227, 1, none⟩ = some (.int .i64 a3_1) ∧ w76.cell? ⟨gb227, 2, none⟩ = some (.int .i64 a3_2) := hS_
            refine norm_ (a' := ?_) ?_ ?_
            rotate_left
            ·simp only [putAll, Act.put, List.setIfInBounds_toArray, List.set_cons_zero, List.set_cons_succ]
             rfl
            refine two_ (i := 7) (j := 8) (Ni := some 43) (Nj := some 10) #[true, true, true, true, true, true, true, true, false, true, false, false] #[true, true, true, true, true, true, true, false, true, true, false, false] rfl rfl rfl rfl (two_of HT_.out (by kernel_rfl)) (by decide) (by decide) (fun K hK => ?_) (fun K hK => ?_)
            ·skip
             refine goes_ Try.func39 (by kernel_rfl) rfl #[.int .i64 a0, .agg #[.bool a2_0, .int .i64 a2_1, .int .i64 a2_2], .agg #[.bool a3_0, .int .i64 a3_1, .int .i64 a3_2]] (by rfl) rfl rfl (by (try simp only [List.map_toArray, List.map_cons, List.map_nil]); first | done | rfl) ?_
             with_reducible refine (impl_SpanMeet.calls kj4 a0 a2_0 a2_1 a2_2 a3_0 a3_1 a3_2 t241 t242 t243 _ A64.out).mono ?_
             rintro e w77 ⟨rfl, hb⟩
             refine ⟨_, rfl, ?_⟩
             have n0_ := A_ (blk_below (bz_ BK226.out) hb)
             have n1_ := A_ (blk_below (bz_ BK227.out) hb)
             have n2_ := A_ (blk_below (bz_ BK228.out) hb)
             have n3_ := A_ (blk_below (bz_ BK229.out) hb)
             have n4_ := A_ (blk_below (bz_ BK248.out) hb)
             have n5_ := A_ (below_step hB_ hb)
             clear BK226 BK227
             clear BK228 BK229
             clear BK248 HB
             have BK226 := n0_
             have BK227 := n1_
             have BK228 := n2_
             have BK229 := n3_
             have BK248 := n4_
             have HB := n5_
             clear n0_ n1_ n2_ n3_ n4_ n5_
             (try clear hb)
             (try clear hb2)
             (try clear hk)
             (try clear hi)
             refine hK.out _ _ ⟨bc_ BK226.out 0, bc_ BK226.out 1, bc_ BK226.out 2, bc_ BK227.out 0, bc_ BK227.out 1, bc_ BK227.out 2⟩ (fun hHeld => ?_)
             clear hK K
             refine norm_ (a' := ?_) ?_ ?_
             rotate_left
             ·show Act.put _ (some 43) _ = _
              simp only [Act.put, x1_, x2_, x3_, i64_w, i32_w]
              rfl
             exact norm_ (by simp only [putAll, Act.put, x1_, x2_, x3_] <;> rfl) (hJ3_7_9 (gb248) _ ⟨hHeld, (bz_ BK226.out), (bz_ BK227.out), (bz_ BK228.out), (bz_ BK229.out), (bz_ BK248.out), GW248.out, GE248.out, NB226_248.out, NB248_226.out, NB227_248.out, NB248_227.out, NB228_248.out, NB248_228.out, NB229_248.out, NB248_229.out, hB_⟩)
            ·skip
             refine box_step ?hg (N := 10) ?hd (cs := #[.bool false, .int .i64 0, .int .i64 0]) (t := 24) ?hr ?_; (case hd => rfl); (case hg => rfl); (case hr => first | (go_simp; done) | (go_simp; rfl))
             intro gb247 hg w77 hbox hb
             have n0_ := A_ (blk_below (bz_ BK226.out) hb)
             have n1_ := A_ (blk_below (bz_ BK227.out) hb)
             have n2_ := A_ (blk_below (bz_ BK228.out) hb)
             have n3_ := A_ (blk_below (bz_ BK229.out) hb)
             have n4_ := A_ (blk_below (bz_ BK248.out) hb)
             have n5_ := A_ (below_step hB_ hb)
             have n6_ := A_ (hbox)
             have n7_ := A_ (ge_ hg)
             have GE247 := n7_
             have NB226_247 := A_ (nl_ hg (bz_ BK226.out))
             have NB247_226 := A_ (ng_ hg (bz_ BK226.out))
             have NB227_247 := A_ (nl_ hg (bz_ BK227.out))
             have NB247_227 := A_ (ng_ hg (bz_ BK227.out))
             have NB228_247 := A_ (nl_ hg (bz_ BK228.out))
             have NB247_228 := A_ (ng_ hg (bz_ BK228.out))
             have NB229_247 := A_ (nl_ hg (bz_ BK229.out))
             have NB247_229 := A_ (ng_ hg (bz_ BK229.out))
             have NB248_247 := A_ (nl_ hg (bz_ BK248.out))
             have NB247_248 := A_ (ng_ hg (bz_ BK248.out))
             clear BK226 BK227
             clear BK228 BK229
             clear BK248 HB
             have BK226 := n0_
             have BK227 := n1_
             have BK228 := n2_
             have BK229 := n3_
             have BK248 := n4_
             have HB := n5_
             have BK247 := n6_
             have GW247 := n7_
             clear n0_ n1_ n2_ n3_ n4_ n5_ n6_ n7_
             clear hb hbox hg
             refine hK.out _ _ ⟨bc_ BK226.out 0, bc_ BK226.out 1, bc_ BK226.out 2, bc_ BK227.out 0, bc_ BK227.out 1, bc_ BK227.out 2⟩ (fun hHeld => ?_)
             clear hK K
             refine norm_ (a' := ?_) ?_ ?_
             rotate_left
             ·show Act.put _ (some 10) _ = _
              simp only [Act.put, x1_, x2_, x3_, i64_w, i32_w]
              rfl
             exact norm_ (by simp only [putAll, Act.put, x1_, x2_, x3_] <;> rfl) (hJ3_8_9 (gb247, gb248) _ ⟨hHeld, (bz_ BK226.out), (bz_ BK227.out), (bz_ BK228.out), (bz_ BK229.out), (bz_ BK247.out), (bz_ BK248.out), GW247.out, GE247.out, NB226_247.out, NB247_226.out, NB227_247.out, NB247_227.out, NB228_247.out, NB247_228.out, NB229_247.out, NB247_229.out, NB248_247.out, NB247_248.out, GW248.out, GE248.out, NB226_248.out, NB248_226.out, NB227_248.out, NB248_227.out, NB228_248.out, NB248_228.out, NB229_248.out, NB248_229.out, hB_⟩)
          ·skip
           rintro gb247 w76 ⟨hS_, h0_, h1_, h2_, h3_, h4_, h5_, h6_, h7_, h8_, h9_, h10_, h11_, h12_, h13_, h14_, h15_⟩
           have n0_ : Aside0 (w76.heap[gb226]? = some (.cells #[.bool a2_0, .int .i64 a2_1, .int .i64 a2_2] 24 (0, 0))) := ⟨h0_⟩
           have n1_ : Aside0 (w76.heap[gb227]? = some (.cells #[.bool a3_0, .int .i64 a3_1, .int .i64 a3_2] 24 (0, 0))) := ⟨h1_⟩
           have n2_ : Aside0 (w76.heap[gb228]? = some (.cells #[.bool false, .int .i64 0, .int .i64 0] 24 (0, 0))) := ⟨h2_⟩
           have n3_ : Aside0 (w76.heap[gb229]? = some (.cells #[.bool false, .int .i64 0, .int .i64 0] 24 (0, 0))) := ⟨h3_⟩
           have n4_ : Aside0 (w76.heap[gb247]? = some (.cells #[.bool false, .int .i64 0, .int .i64 0] 24 (0, 0))) := ⟨h4_⟩
           have GW247 : Aside0 (w.heap.size ≤ gb247) := ⟨h5_⟩
           have GE247 : Aside0 (w.heap.size ≤ gb247) := ⟨h6_⟩
           have NB226_247 := A_ h7_
           have NB247_226 := A_ h8_
           have NB227_247 := A_ h9_
           have NB247_227 := A_ h10_
           have NB228_247 := A_ h11_
           have NB247_228 := A_ h12_
           have NB229_247 := A_ h13_
           have NB247_229 := A_ h14_
           have n15_ : Aside0 (Below w.heap.size w w76) := ⟨h15_⟩
           clear BK226 BK227
           clear BK228 BK229 HB
           clear h0_ h1_ h2_ h3_ h4_ h5_ h6_ h7_ h8_ h9_ h10_ h11_ h12_ h13_ h14_ h15_
           have BK226 := n0_
           have BK227 := n1_
           have BK228 := n2_
           have BK229 := n3_
           have BK247 := n4_
           have HB := n15_
           clear n0_ n1_ n2_ n3_ n4_ n15_
           have hHeld : w76.cell? ⟨gb226, 0, none⟩ = some (.bool a2_0) ∧ w76.cell? ⟨gb226, 1, none⟩ = some (.int .i64 a2_1) ∧ w76.cell? ⟨gb226, 2, none⟩ = some (.int .i64 a2_2) ∧ w76.cell? ⟨gb227, 0, none⟩ = some (.bool a3_0) ∧ w76.cell? ⟨gb227, 1, none⟩ = some (.int .i64 a3_1) ∧ w76.cell? ⟨gb227, 2, none⟩ = some (.int .i64 a3_2) := hS_
           refine norm_ (a' := ?_) ?_ ?_
           rotate_left
           ·simp only [putAll, Act.put, List.setIfInBounds_toArray, List.set_cons_zero, List.set_cons_succ]
            rfl
           refine two_ (i := 7) (j := 9) (Ni := some 43) (Nj := some 11) #[true, true, true, true, true, true, true, true, true, false, false, false] #[true, true, true, true, true, true, true, false, true, true, false, false] rfl rfl rfl rfl (two_of HT_.out (by kernel_rfl)) (by decide) (by decide) (fun K hK => ?_) (fun K hK => ?_)
           ·skip
            refine goes_ Try.func39 (by kernel_rfl) rfl #[.int .i64 a0, .agg #[.bool a2_0, .int .i64 a2_1, .int .i64 a2_2], .agg #[.bool a3_0, .int .i64 a3_1, .int .i64 a3_2]] (by rfl) rfl rfl (by (try simp only [List.map_toArray, List.map_cons, List.map_nil]); first | done | rfl) ?_
            with_reducible refine (impl_SpanMeet.calls kj4 a0 a2_0 a2_1 a2_2 a3_0 a3_1 a3_2 t241 t242 t243 _ A64.out).mono ?_
            rintro e w77 ⟨rfl, hb⟩
            refine ⟨_, rfl, ?_⟩
            have n0_ := A_ (blk_below (bz_ BK226.out) hb)
            have n1_ := A_ (blk_below (bz_ BK227.out) hb)
            have n2_ := A_ (blk_below (bz_ BK228.out) hb)
            have n3_ := A_ (blk_below (bz_ BK229.out) hb)
            have n4_ := A_ (blk_below (bz_ BK247.out) hb)
            have n5_ := A_ (below_step hB_ hb)
            clear BK226 BK227
            clear BK228 BK229
            clear BK247 HB
            have BK226 := n0_
            have BK227 := n1_
            have BK228 := n2_
            have BK229 := n3_
            have BK247 := n4_
            have HB := n5_
            clear n0_ n1_ n2_ n3_ n4_ n5_
            (try clear hb)
            (try clear hb2)
            (try clear hk)
            (try clear hi)
            refine hK.out _ _ ⟨bc_ BK226.out 0, bc_ BK226.out 1, bc_ BK226.out 2, bc_ BK227.out 0, bc_ BK227.out 1, bc_ BK227.out 2⟩ (fun hHeld => ?_)
            clear hK K
            refine norm_ (a' := ?_) ?_ ?_
            rotate_left
            ·show Act.put _ (some 43) _ = _
             simp only [Act.put, x1_, x2_, x3_, i64_w, i32_w]
             rfl
            exact norm_ (by simp only [putAll, Act.put, x1_, x2_, x3_] <;> rfl) (hJ3_7_8 (gb247) _ ⟨hHeld, (bz_ BK226.out), (bz_ BK227.out), (bz_ BK228.out), (bz_ BK229.out), (bz_ BK247.out), GW247.out, GE247.out, NB226_247.out, NB247_226.out, NB227_247.out, NB247_227.out, NB228_247.out, NB247_228.out, NB229_247.out, NB247_229.out, hB_⟩)
           ·skip
            refine box_step ?hg (N := 11) ?hd (cs := #[.bool false, .int .i64 0, .int .i64 0]) (t := 24) ?hr ?_; (case hd => rfl); (case hg => rfl); (case hr => first | (go_simp; done) | (go_simp; rfl))
            intro gb248 hg w77 hbox hb
            have n0_ := A_ (blk_below (bz_ BK226.out) hb)
            have n1_ := A_ (blk_below (bz_ BK227.out) hb)
            have n2_ := A_ (blk_below (bz_ BK228.out) hb)
            have n3_ := A_ (blk_below (bz_ BK229.out) hb)
            have n4_ := A_ (blk_below (bz_ BK247.out) hb)
            have n5_ := A_ (below_step hB_ hb)
            have n6_ := A_ (hbox)
            have n7_ := A_ (ge_ hg)
            have GE248 := n7_
            have NB226_248 := A_ (nl_ hg (bz_ BK226.out))
            have NB248_226 := A_ (ng_ hg (bz_ BK226.out))
            have NB227_248 := A_ (nl_ hg (bz_ BK227.out))
            have NB248_227 := A_ (ng_ hg (bz_ BK227.out))
            have NB228_248 := A_ (nl_ hg (bz_ BK228.out))
            have NB248_228 := A_ (ng_ hg (bz_ BK228.out))
            have NB229_248 := A_ (nl_ hg (bz_ BK229.out))
            have NB248_229 := A_ (ng_ hg (bz_ BK229.out))
            have NB247_248 := A_ (nl_ hg (bz_ BK247.out))
            have NB248_247 := A_ (ng_ hg (bz_ BK247.out))
            clear BK226 BK227
            clear BK228 BK229
            clear BK247 HB
            have BK226 := n0_
            have BK227 := n1_
            have BK228 := n2_
            have BK229 := n3_
            have BK247 := n4_
            have HB := n5_
            have BK248 := n6_
            have GW248 := n7_
            clear n0_ n1_ n2_ n3_ n4_ n5_ n6_ n7_
            clear hb hbox hg
            refine hK.out _ _ ⟨bc_ BK226.out 0, bc_ BK226.out 1, bc_ BK226.out 2, bc_ BK227.out 0, bc_ BK227.out 1, bc_ BK227.out 2⟩ (fun hHeld => ?_)
            clear hK K
            refine norm_ (a' := ?_) ?_ ?_
            rotate_left
            ·show Act.put _ (some 11) _ = _
             simp only [Act.put, x1_, x2_, x3_, i64_w, i32_w]
             rfl
            exact norm_ (by simp only [putAll, Act.put, x1_, x2_, x3_] <;> rfl) (hJ3_8_9 (gb247, gb248) _ ⟨hHeld, (bz_ BK226.out), (bz_ BK227.out), (bz_ BK228.out), (bz_ BK229.out), (bz_ BK247.out), (bz_ BK248.out), GW247.out, GE247.out, NB226_247.out, NB247_226.out, NB227_247.out, NB247_227.out, NB228_247.out, NB247_228.out, NB229_247.out, NB247_229.out, NB248_247.out, NB247_248.out, GW248.out, GE248.out, NB226_248.out, NB248_226.out, NB227_248.out, NB248_227.out, NB228_248.out, NB248_228.out, NB229_248.out, NB248_229.out, hB_⟩)
         ·skip
          rintro _ w76 ⟨hS_, h0_, h1_, h2_, h3_, h4_⟩
          have n0_ : Aside0 (w76.heap[gb226]? = some (.cells #[.bool a2_0, .int .i64 a2_1, .int .i64 a2_2] 24 (0, 0))) := ⟨h0_⟩
          have n1_ : Aside0 (w76.heap[gb227]? = some (.cells #[.bool a3_0, .int .i64 a3_1, .int .i64 a3_2] 24 (0, 0))) := ⟨h1_⟩
          have n2_ : Aside0 (w76.heap[gb228]? = some (.cells #[.bool false, .int .i64 0, .int .i64 0] 24 (0, 0))) := ⟨h2_⟩
          have n3_ : Aside0 (w76.heap[gb229]? = some (.cells #[.bool false, .int .i64 0, .int .i64 0] 24 (0, 0))) := ⟨h3_⟩
          have n4_ : Aside0 (Below w.heap.size w w76) := ⟨h4_⟩
          clear BK226 BK227
          clear BK228 BK229 HB
          clear h0_ h1_ h2_ h3_ h4_
          have BK226 := n0_
          have BK227 := n1_
          have BK228 := n2_
          have BK229 := n3_
          have HB := n4_
          clear n0_ n1_ n2_ n3_ n4_
          have hHeld : w76.cell? ⟨gb226, 0, none⟩ = some (.bool a2_0) ∧ w76.cell? ⟨gb226, 1, none⟩ = some (.int .i64 a2_1) ∧ w76.cell? ⟨gb226, 2, none⟩ = some (.int .i64 a2_2) ∧ w76.cell? ⟨gb227, 0, none⟩ = some (.bool a3_0) ∧ w76.cell? ⟨gb227, 1, none⟩ = some (.int .i64 a3_1) ∧ w76.cell? ⟨gb227, 2, none⟩ = some (.int .i64 a3_2) := hS_
          refine norm_ (a' := ?_) ?_ ?_
          rotate_left
          ·simp only [putAll, Act.put, List.setIfInBounds_toArray, List.set_cons_zero, List.set_cons_succ]
           rfl
          refine two_ (i := 8) (j := 9) (Ni := some 10) (Nj := some 11) #[true, true, true, true, true, true, true, true, true, false, false, false] #[true, true, true, true, true, true, true, true, false, true, false, false] rfl rfl rfl rfl (two_of HT_.out (by kernel_rfl)) (by decide) (by decide) (fun K hK => ?_) (fun K hK => ?_)
          ·skip
           refine box_step ?hg (N := 10) ?hd (cs := #[.bool false, .int .i64 0, .int .i64 0]) (t := 24) ?hr ?_; (case hd => rfl); (case hg => rfl); (case hr => first | (go_simp; done) | (go_simp; rfl))
           intro gb247 hg w77 hbox hb
           have n0_ := A_ (blk_below (bz_ BK226.out) hb)
           have n1_ := A_ (blk_below (bz_ BK227.out) hb)
           have n2_ := A_ (blk_below (bz_ BK228.out) hb)
           have n3_ := A_ (blk_below (bz_ BK229.out) hb)
           have n4_ := A_ (below_step hB_ hb)
           have n5_ := A_ (hbox)
           have n6_ := A_ (ge_ hg)
           have GE247 := n6_
           have NB226_247 := A_ (nl_ hg (bz_ BK226.out))
           have NB247_226 := A_ (ng_ hg (bz_ BK226.out))
           have NB227_247 := A_ (nl_ hg (bz_ BK227.out))
           have NB247_227 := A_ (ng_ hg (bz_ BK227.out))
           have NB228_247 := A_ (nl_ hg (bz_ BK228.out))
           have NB247_228 := A_ (ng_ hg (bz_ BK228.out))
           have NB229_247 := A_ (nl_ hg (bz_ BK229.out))
           have NB247_229 := A_ (ng_ hg (bz_ BK229.out))
           clear BK226 BK227
           clear BK228 BK229 HB
           have BK226 := n0_
           have BK227 := n1_
           have BK228 := n2_
           have BK229 := n3_
           have HB := n4_
           have BK247 := n5_
           have GW247 := n6_
           clear n0_ n1_ n2_ n3_ n4_ n5_ n6_
           clear hb hbox hg
           refine hK.out _ _ ⟨bc_ BK226.out 0, bc_ BK226.out 1, bc_ BK226.out 2, bc_ BK227.out 0, bc_ BK227.out 1, bc_ BK227.out 2⟩ (fun hHeld => ?_)
           clear hK K
           refine norm_ (a' := ?_) ?_ ?_
           rotate_left
           ·show Act.put _ (some 10) _ = _
            simp only [Act.put, x1_, x2_, x3_, i64_w, i32_w]
            rfl
           exact norm_ (by simp only [putAll, Act.put, x1_, x2_, x3_] <;> rfl) (hJ3_7_8 (gb247) _ ⟨hHeld, (bz_ BK226.out), (bz_ BK227.out), (bz_ BK228.out), (bz_ BK229.out), (bz_ BK247.out), GW247.out, GE247.out, NB226_247.out, NB247_226.out, NB227_247.out, NB247_227.out, NB228_247.out, NB247_228.out, NB229_247.out, NB247_229.out, hB_⟩)
          ·skip
           refine box_step ?hg (N := 11) ?hd (cs := #[.bool false, .int .i64 0, .int .i64 0]) (t := 24) ?hr ?_; (case hd => rfl); (case hg => rfl); (case hr => first | (go_simp; done) | (go_simp; rfl))
           intro gb248 hg w77 hbox hb
           have n0_ := A_ (blk_below (bz_ BK226.out) hb)
           have n1_ := A_ (blk_below (bz_ BK227.out) hb)
           have n2_ := A_ (blk_below (bz_ BK228.out) hb)
           have n3_ := A_ (blk_below (bz_ BK229.out) hb)
           have n4_ := A_ (below_step hB_ hb)
           have n5_ := A_ (hbox)
           have n6_ := A_ (ge_ hg)
           have GE248 := n6_
           have NB226_248 := A_ (nl_ hg (bz_ BK226.out))
           have NB248_226 := A_ (ng_ hg (bz_ BK226.out))
           have NB227_248 := A_ (nl_ hg (bz_ BK227.out))
           have NB248_227 := A_ (ng_ hg (bz_ BK227.out))
           have NB228_248 := A_ (nl_ hg (bz_ BK228.out))
           have NB248_228 := A_ (ng_ hg (bz_ BK228.out))
           have NB229_248 := A_ (nl_ hg (bz_ BK229.out))
           have NB248_229 := A_ (ng_ hg (bz_ BK229.out))
           clear BK226 BK227
           clear BK228 BK229 HB
           have BK226 := n0_
           have BK227 := n1_
           have BK228 := n2_
           have BK229 := n3_
           have HB := n4_
           have BK248 := n5_
           have GW248 := n6_
           clear n0_ n1_ n2_ n3_ n4_ n5_ n6_
           clear hb hbox hg
           refine hK.out _ _ ⟨bc_ BK226.out 0, bc_ BK226.out 1, bc_ BK226.out 2, bc_ BK227.out 0, bc_ BK227.out 1, bc_ BK227.out 2⟩ (fun hHeld => ?_)
           clear hK K
           refine norm_ (a' := ?_) ?_ ?_
           rotate_left
           ·show Act.put _ (some 11) _ = _
            simp only [Act.put, x1_, x2_, x3_, i64_w, i32_w]
            rfl
           exact norm_ (by simp only [putAll, Act.put, x1_, x2_, x3_] <;> rfl) (hJ3_7_9 (gb248) _ ⟨hHeld, (bz_ BK226.out), (bz_ BK227.out), (bz_ BK228.out), (bz_ BK229.out), (bz_ BK248.out), GW248.out, GE248.out, NB226_248.out, NB248_226.out, NB227_248.out, NB248_227.out, NB228_248.out, NB248_228.out, NB229_248.out, NB248_229.out, hB_⟩)
        ·skip
         rintro ⟨gb247, gb248⟩ w77 ⟨hS_, h0_, h1_, h2_, h3_, h4_, h5_, h6_, h7_, h8_, h9_, h10_, h11_, h12_, h13_, h14_, h15_, h16_, h17_, h18_, h19_, h20_, h21_, h22_, h23_, h24_, h25_, h26_, h27_, h28_⟩
         have n0_ : Aside0 (w77.heap[gb226]? = some (.cells #[.bool a2_0, .int .i64 a2_1, .int .i64 a2_2] 24 (0, 0))) := ⟨h0_⟩
         have n1_ : Aside0 (w77.heap[gb227]? = some (.cells #[.bool a3_0, .int .i64 a3_1, .int .i64 a3_2] 24 (0, 0))) := ⟨h1_⟩
         have n2_ : Aside0 (w77.heap[gb228]? = some (.cells #[.bool false, .int .i64 0, .int .i64 0] 24 (0, 0))) := ⟨h2_⟩
         have n3_ : Aside0 (w77.heap[gb229]? = some (.cells #[.bool false, .int .i64 0, .int .i64 0] 24 (0, 0))) := ⟨h3_⟩
         have n4_ : Aside0 (w77.heap[gb247]? = some (.cells #[.bool false, .int .i64 0, .int .i64 0] 24 (0, 0))) := ⟨h4_⟩
         have n5_ : Aside0 (w77.heap[gb248]? = some (.cells #[.bool false, .int .i64 0, .int .i64 0] 24 (0, 0))) := ⟨h5_⟩
         have GW247 : Aside0 (w.heap.size ≤ gb247) := ⟨h6_⟩
         have GE247 : Aside0 (w.heap.size ≤ gb247) := ⟨h7_⟩
         have NB226_247 := A_ h8_
         have NB247_226 := A_ h9_
         have NB227_247 := A_ h10_
         have NB247_227 := A_ h11_
         have NB228_247 := A_ h12_
         have NB247_228 := A_ h13_
         have NB229_247 := A_ h14_
         have NB247_229 := A_ h15_
         have NB248_247 := A_ h16_
         have NB247_248 := A_ h17_
         have GW248 : Aside0 (w.heap.size ≤ gb248) := ⟨h18_⟩
         have GE248 : Aside0 (w.heap.size ≤ gb248) := ⟨h19_⟩
         have NB226_248 := A_ h20_
         have NB248_226 := A_ h21_
         have NB227_248 := A_ h22_
         have NB248_227 := A_ h23_
         have NB228_248 := A_ h24_
         have NB248_228 := A_ h25_
         have NB229_248 := A_ h26_
         have NB248_229 := A_ h27_
         have n28_ : Aside0 (Below w.heap.size w w77) := ⟨h28_⟩
         clear BK226 BK227
         clear BK228 BK229 HB
         clear h0_ h1_ h2_ h3_ h4_ h5_ h6_ h7_ h8_ h9_ h10_ h11_ h12_ h13_ h14_ h15_ h16_ h17_ h18_ h19_ h20_ h21_ h22_ h23_ h24_ h25_ h26_ h27_ h28_
         have BK226 := n0_
         have BK227 := n1_
         have BK228 := n2_
         have BK229 := n3_
         have BK247 := n4_
         have BK248 := n5_
         have HB := n28_
         clear n0_ n1_ n2_ n3_ n4_ n5_ n28_
         have hHeld : w77.cell? ⟨gb226, 0, none⟩ = some (.bool a2_0) ∧ w77.cell? ⟨gb226, 1, none⟩ = some (.int .i64 a2_1) ∧ w77.cell? ⟨gb226, 2, none⟩ = some (.int .i64 a2_2) ∧ w77.cell? ⟨gb227, 0, none⟩ = some (.bool a3_0) ∧ w77.cell? ⟨gb227, 1, none⟩ = some (.int .i64 a3_1) ∧ w77.cell? ⟨gb227, 2, none⟩ = some (.int .i64 a3_2) := hS_
         refine norm_ (a' := ?_) ?_ ?_
         rotate_left
         ·simp only [putAll, Act.put, List.setIfInBounds_toArray, List.set_cons_zero, List.set_cons_succ]
          rfl
         refine one_ (i := 7) (N := some 43) #[true, true, true, true, true, true, true, true, true, true, false, false] rfl rfl (one_of HT_.out (by kernel_rfl)) (by decide) (fun K hK => ?_)
         refine goes_ Try.func39 (by kernel_rfl) rfl #[.int .i64 a0, .agg #[.bool a2_0, .int .i64 a2_1, .int .i64 a2_2], .agg #[.bool a3_0, .int .i64 a3_1, .int .i64 a3_2]] (by rfl) rfl rfl (by (try simp only [List.map_toArray, List.map_cons, List.map_nil]); first | done | rfl) ?_
         with_reducible refine (impl_SpanMeet.calls kj4 a0 a2_0 a2_1 a2_2 a3_0 a3_1 a3_2 t241 t242 t243 _ A64.out).mono ?_
         rintro e w78 ⟨rfl, hb⟩
         refine ⟨_, rfl, ?_⟩
         have n0_ := A_ (blk_below (bz_ BK226.out) hb)
         have n1_ := A_ (blk_below (bz_ BK227.out) hb)
         have n2_ := A_ (blk_below (bz_ BK228.out) hb)
         have n3_ := A_ (blk_below (bz_ BK229.out) hb)
         have n4_ := A_ (blk_below (bz_ BK247.out) hb)
         have n5_ := A_ (blk_below (bz_ BK248.out) hb)
         have n6_ := A_ (below_step hB_ hb)
         clear BK226 BK227
         clear BK228 BK229
         clear BK247 BK248 HB
         have BK226 := n0_
         have BK227 := n1_
         have BK228 := n2_
         have BK229 := n3_
         have BK247 := n4_
         have BK248 := n5_
         have HB := n6_
         clear n0_ n1_ n2_ n3_ n4_ n5_ n6_
         (try clear hb)
         (try clear hb2)
         (try clear hk)
         (try clear hi)
         refine hK.out _ _ ⟨bc_ BK226.out 0, bc_ BK226.out 1, bc_ BK226.out 2, bc_ BK227.out 0, bc_ BK227.out 1, bc_ BK227.out 2⟩ (fun hHeld => ?_)
         clear hK K
         refine norm_ (a' := ?_) ?_ ?_
         rotate_left
         ·show Act.put _ (some 43) _ = _
          simp only [Act.put, x1_, x2_, x3_, i64_w, i32_w]
          rfl
         exact norm_ (by simp only [putAll, Act.put, x1_, x2_, x3_] <;> rfl) (hJ3_7_8_9 (gb247, gb248) _ ⟨hHeld, (bz_ BK226.out), (bz_ BK227.out), (bz_ BK228.out), (bz_ BK229.out), (bz_ BK247.out), (bz_ BK248.out), GW247.out, GE247.out, NB226_247.out, NB247_226.out, NB227_247.out, NB247_227.out, NB228_247.out, NB247_228.out, NB229_247.out, NB247_229.out, NB248_247.out, NB247_248.out, GW248.out, GE248.out, NB226_248.out, NB248_226.out, NB227_248.out, NB248_227.out, NB228_248.out, NB248_228.out, NB229_248.out, NB248_229.out, hB_⟩)
       ·skip
        rintro gb248 w77 ⟨hS_, h0_, h1_, h2_, h3_, h4_, h5_, h6_, h7_, h8_, h9_, h10_, h11_, h12_, h13_, h14_, h15_⟩
        have n0_ : Aside0 (w77.heap[gb226]? = some (.cells #[.bool a2_0, .int .i64 a2_1, .int .i64 a2_2] 24 (0, 0))) := ⟨h0_⟩
        have n1_ : Aside0 (w77.heap[gb227]? = some (.cells #[.bool a3_0, .int .i64 a3_1, .int .i64 a3_2] 24 (0, 0))) := ⟨h1_⟩
        have n2_ : Aside0 (w77.heap[gb228]? = some (.cells #[.bool false, .int .i64 0, .int .i64 0] 24 (0, 0))) := ⟨h2_⟩
        have n3_ : Aside0 (w77.heap[gb229]? = some (.cells #[.bool false, .int .i64 0, .int .i64 0] 24 (0, 0))) := ⟨h3_⟩
        have n4_ : Aside0 (w77.heap[gb248]? = some (.cells #[.bool false, .int .i64 0, .int .i64 0] 24 (0, 0))) := ⟨h4_⟩
        have GW248 : Aside0 (w.heap.size ≤ gb248) := ⟨h5_⟩
        have GE248 : Aside0 (w.heap.size ≤ gb248) := ⟨h6_⟩
        have NB226_248 := A_ h7_
        have NB248_226 := A_ h8_
        have NB227_248 := A_ h9_
        have NB248_227 := A_ h10_
        have NB228_248 := A_ h11_
        have NB248_228 := A_ h12_
        have NB229_248 := A_ h13_
        have NB248_229 := A_ h14_
        have n15_ : Aside0 (Below w.heap.size w w77) := ⟨h15_⟩
        clear BK226 BK227
        clear BK228 BK229 HB
        clear h0_ h1_ h2_ h3_ h4_ h5_ h6_ h7_ h8_ h9_ h10_ h11_ h12_ h13_ h14_ h15_
        have BK226 := n0_
        have BK227 := n1_
        have BK228 := n2_
        have BK229 := n3_
        have BK248 := n4_
        have HB := n15_
        clear n0_ n1_ n2_ n3_ n4_ n15_
        have hHeld : w77.cell? ⟨gb226, 0, none⟩ = some (.bool a2_0) ∧ w77.cell? ⟨gb226, 1, none⟩ = some (.int .i64 a2_1) ∧ w77.cell? ⟨gb226, 2, none⟩ = some (.int .i64 a2_2) ∧ w77.cell? ⟨gb227, 0, none⟩ = some (.bool a3_0) ∧ w77.cell? ⟨gb227, 1, none⟩ = some (.int .i64 a3_1) ∧ w77.cell? ⟨gb227, 2, none⟩ = some (.int .i64 a3_2) := hS_
        refine norm_ (a' := ?_) ?_ ?_
        rotate_left
        ·simp only [putAll, Act.put, List.setIfInBounds_toArray, List.set_cons_zero, List.set_cons_succ]
         rfl
        refine one_ (i := 8) (N := some 10) #[true, true, true, true, true, true, true, true, true, true, false, false] rfl rfl (one_of HT_.out (by kernel_rfl)) (by decide) (fun K hK => ?_)
        refine box_step ?hg (N := 10) ?hd (cs := #[.bool false, .int .i64 0, .int .i64 0]) (t := 24) ?hr ?_; (case hd => rfl); (case hg => rfl); (case hr => first | (go_simp; done) | (go_simp; rfl))
        intro gb247 hg w78 hbox hb
        have n0_ := A_ (blk_below (bz_ BK226.out) hb)
        have n1_ := A_ (blk_below (bz_ BK227.out) hb)
        have n2_ := A_ (blk_below (bz_ BK228.out) hb)
        have n3_ := A_ (blk_below (bz_ BK229.out) hb)
        have n4_ := A_ (blk_below (bz_ BK248.out) hb)
        have n5_ := A_ (below_step hB_ hb)
        have n6_ := A_ (hbox)
        have n7_ := A_ (ge_ hg)
        have GE247 := n7_
        have NB226_247 := A_ (nl_ hg (bz_ BK226.out))
        have NB247_226 := A_ (ng_ hg (bz_ BK226.out))
        have NB227_247 := A_ (nl_ hg (bz_ BK227.out))
        have NB247_227 := A_ (ng_ hg (bz_ BK227.out))
        have NB228_247 := A_ (nl_ hg (bz_ BK228.out))
        have NB247_228 := A_ (ng_ hg (bz_ BK228.out))
        have NB229_247 := A_ (nl_ hg (bz_ BK229.out))
        have NB247_229 := A_ (ng_ hg (bz_ BK229.out))
        have NB248_247 := A_ (nl_ hg (bz_ BK248.out))
        have NB247_248 := A_ (ng_ hg (bz_ BK248.out))
        clear BK226 BK227
        clear BK228 BK229
        clear BK248 HB
        have BK226 := n0_
        have BK227 := n1_
        have BK228 := n2_
        have BK229 := n3_
        have BK248 := n4_
        have HB := n5_
        have BK247 := n6_
        have GW247 := n7_
        clear n0_ n1_ n2_ n3_ n4_ n5_ n6_ n7_
        clear hb hbox hg
        refine hK.out _ _ ⟨bc_ BK226.out 0, bc_ BK226.out 1, bc_ BK226.out 2, bc_ BK227.out 0, bc_ BK227.out 1, bc_ BK227.out 2⟩ (fun hHeld => ?_)
        clear hK K
        refine norm_ (a' := ?_) ?_ ?_
        rotate_left
        ·show Act.put _ (some 10) _ = _
         simp only [Act.put, x1_, x2_, x3_, i64_w, i32_w]
         rfl
        exact norm_ (by simp only [putAll, Act.put, x1_, x2_, x3_] <;> rfl) (hJ3_7_8_9 (gb247, gb248) _ ⟨hHeld, (bz_ BK226.out), (bz_ BK227.out), (bz_ BK228.out), (bz_ BK229.out), (bz_ BK247.out), (bz_ BK248.out), GW247.out, GE247.out, NB226_247.out, NB247_226.out, NB227_247.out, NB247_227.out, NB228_247.out, NB247_228.out, NB229_247.out, NB247_229.out, NB248_247.out, NB247_248.out, GW248.out, GE248.out, NB226_248.out, NB248_226.out, NB227_248.out, NB248_227.out, NB228_248.out, NB248_228.out, NB229_248.out, NB248_229.out, hB_⟩)
      ·skip
       rintro gb247 w77 ⟨hS_, h0_, h1_, h2_, h3_, h4_, h5_, h6_, h7_, h8_, h9_, h10_, h11_, h12_, h13_, h14_, h15_⟩
       have n0_ : Aside0 (w77.heap[gb226]? = some (.cells #[.bool a2_0, .int .i64 a2_1, .int .i64 a2_2] 24 (0, 0))) := ⟨h0_⟩
       have n1_ : Aside0 (w77.heap[gb227]? = some (.cells #[.bool a3_0, .int .i64 a3_1, .int .i64 a3_2] 24 (0, 0))) := ⟨h1_⟩
       have n2_ : Aside0 (w77.heap[gb228]? = some (.cells #[.bool false, .int .i64 0, .int .i64 0] 24 (0, 0))) := ⟨h2_⟩
       have n3_ : Aside0 (w77.heap[gb229]? = some (.cells #[.bool false, .int .i64 0, .int .i64 0] 24 (0, 0))) := ⟨h3_⟩
       have n4_ : Aside0 (w77.heap[gb247]? = some (.cells #[.bool false, .int .i64 0, .int .i64 0] 24 (0, 0))) := ⟨h4_⟩
       have GW247 : Aside0 (w.heap.size ≤ gb247) := ⟨h5_⟩
       have GE247 : Aside0 (w.heap.size ≤ gb247) := ⟨h6_⟩
       have NB226_247 := A_ h7_
       have NB247_226 := A_ h8_
       have NB227_247 := A_ h9_
       have NB247_227 := A_ h10_
       have NB228_247 := A_ h11_
       have NB247_228 := A_ h12_
       have NB229_247 := A_ h13_
       have NB247_229 := A_ h14_
       have n15_ : Aside0 (Below w.heap.size w w77) := ⟨h15_⟩
       clear BK226 BK227
       clear BK228 BK229 HB
       clear h0_ h1_ h2_ h3_ h4_ h5_ h6_ h7_ h8_ h9_ h10_ h11_ h12_ h13_ h14_ h15_
       have BK226 := n0_
       have BK227 := n1_
       have BK228 := n2_
       have BK229 := n3_
       have BK247 := n4_
       have HB := n15_
       clear n0_ n1_ n2_ n3_ n4_ n15_
       have hHeld : w77.cell? ⟨gb226, 0, none⟩ = some (.bool a2_0) ∧ w77.cell? ⟨gb226, 1, none⟩ = some (.int .i64 a2_1) ∧ w77.cell? ⟨gb226, 2, none⟩ = some (.int .i64 a2_2) ∧ w77.cell? ⟨gb227, 0, none⟩ = some (.bool a3_0) ∧ w77.cell? ⟨gb227, 1, none⟩ = some (.int .i64 a3_1) ∧ w77.cell? ⟨gb227, 2, none⟩ = some (.int .i64 a3_2) := hS_
       refine norm_ (a' := ?_) ?_ ?_
       rotate_left
       ·simp only [putAll, Act.put, List.setIfInBounds_toArray, List.set_cons_zero, List.set_cons_succ]
        rfl
       refine one_ (i := 9) (N := some 11) #[true, true, true, true, true, true, true, true, true, true, false, false] rfl rfl (one_of HT_.out (by kernel_rfl)) (by decide) (fun K hK => ?_)
       refine box_step ?hg (N := 11) ?hd (cs := #[.bool false, .int .i64 0, .int .i64 0]) (t := 24) ?hr ?_; (case hd => rfl); (case hg => rfl); (case hr => first | (go_simp; done) | (go_simp; rfl))
       intro gb248 hg w78 hbox hb
       have n0_ := A_ (blk_below (bz_ BK226.out) hb)
       have n1_ := A_ (blk_below (bz_ BK227.out) hb)
       have n2_ := A_ (blk_below (bz_ BK228.out) hb)
       have n3_ := A_ (blk_below (bz_ BK229.out) hb)
       have n4_ := A_ (blk_below (bz_ BK247.out) hb)
       have n5_ := A_ (below_step hB_ hb)
       have n6_ := A_ (hbox)
       have n7_ := A_ (ge_ hg)
       have GE248 := n7_
       have NB226_248 := A_ (nl_ hg (bz_ BK226.out))
       have NB248_226 := A_ (ng_ hg (bz_ BK226.out))
       have NB227_248 := A_ (nl_ hg (bz_ BK227.out))
       have NB248_227 := A_ (ng_ hg (bz_ BK227.out))
       have NB228_248 := A_ (nl_ hg (bz_ BK228.out))
       have NB248_228 := A_ (ng_ hg (bz_ BK228.out))
       have NB229_248 := A_ (nl_ hg (bz_ BK229.out))
       have NB248_229 := A_ (ng_ hg (bz_ BK229.out))
       have NB247_248 := A_ (nl_ hg (bz_ BK247.out))
       have NB248_247 := A_ (ng_ hg (bz_ BK247.out))
       clear BK226 BK227
       clear BK228 BK229
       clear BK247 HB
       have BK226 := n0_
       have BK227 := n1_
       have BK228 := n2_
       have BK229 := n3_
       have BK247 := n4_
       have HB := n5_
       have BK248 := n6_
       have GW248 := n7_
       clear n0_ n1_ n2_ n3_ n4_ n5_ n6_ n7_
       clear hb hbox hg
       refine hK.out _ _ ⟨bc_ BK226.out 0, bc_ BK226.out 1, bc_ BK226.out 2, bc_ BK227.out 0, bc_ BK227.out 1, bc_ BK227.out 2⟩ (fun hHeld => ?_)
       clear hK K
       refine norm_ (a' := ?_) ?_ ?_
       rotate_left
       ·show Act.put _ (some 11) _ = _
        simp only [Act.put, x1_, x2_, x3_, i64_w, i32_w]
        rfl
       exact norm_ (by simp only [putAll, Act.put, x1_, x2_, x3_] <;> rfl) (hJ3_7_8_9 (gb247, gb248) _ ⟨hHeld, (bz_ BK226.out), (bz_ BK227.out), (bz_ BK228.out), (bz_ BK229.out), (bz_ BK247.out), (bz_ BK248.out), GW247.out, GE247.out, NB226_247.out, NB247_226.out, NB227_247.out, NB247_227.out, NB228_247.out, NB247_228.out, NB229_247.out, NB247_229.out, NB248_247.out, NB247_248.out, GW248.out, GE248.out, NB226_248.out, NB248_226.out, NB227_248.out, NB248_227.out, NB228_248.out, NB248_228.out, NB229_248.out, NB248_229.out, hB_⟩)
     rintro ⟨gb247, gb248⟩ w78 ⟨hS_, h0_, h1_, h2_, h3_, h4_, h5_, h6_, h7_, h8_, h9_, h10_, h11_, h12_, h13_, h14_, h15_, h16_, h17_, h18_, h19_, h20_, h21_, h22_, h23_, h24_, h25_, h26_, h27_, h28_⟩
     have n0_ : Aside0 (w78.heap[gb226]? = some (.cells #[.bool a2_0, .int .i64 a2_1, .int .i64 a2_2] 24 (0, 0))) := ⟨h0_⟩
     have n1_ : Aside0 (w78.heap[gb227]? = some (.cells #[.bool a3_0, .int .i64 a3_1, .int .i64 a3_2] 24 (0, 0))) := ⟨h1_⟩
     have n2_ : Aside0 (w78.heap[gb228]? = some (.cells #[.bool false, .int .i64 0, .int .i64 0] 24 (0, 0))) := ⟨h2_⟩
     have n3_ : Aside0 (w78.heap[gb229]? = some (.cells #[.bool false, .int .i64 0, .int .i64 0] 24 (0, 0))) := ⟨h3_⟩
     have n4_ : Aside0 (w78.heap[gb247]? = some (.cells #[.bool false, .int .i64 0, .int .i64 0] 24 (0, 0))) := ⟨h4_⟩
     have n5_ : Aside0 (w78.heap[gb248]? = some (.cells #[.bool false, .int .i64 0, .int .i64 0] 24 (0, 0))) := ⟨h5_⟩
     have GW247 : Aside0 (w.heap.size ≤ gb247) := ⟨h6_⟩
     have GE247 : Aside0 (w.heap.size ≤ gb247) := ⟨h7_⟩
     have NB226_247 := A_ h8_
     have NB247_226 := A_ h9_
     have NB227_247 := A_ h10_
     have NB247_227 := A_ h11_
     have NB228_247 := A_ h12_
     have NB247_228 := A_ h13_
     have NB229_247 := A_ h14_
     have NB247_229 := A_ h15_
     have NB248_247 := A_ h16_
     have NB247_248 := A_ h17_
     have GW248 : Aside0 (w.heap.size ≤ gb248) := ⟨h18_⟩
     have GE248 : Aside0 (w.heap.size ≤ gb248) := ⟨h19_⟩
     have NB226_248 := A_ h20_
     have NB248_226 := A_ h21_
     have NB227_248 := A_ h22_
     have NB248_227 := A_ h23_
     have NB228_248 := A_ h24_
     have NB248_228 := A_ h25_
     have NB229_248 := A_ h26_
     have NB248_229 := A_ h27_
     have n28_ : Aside0 (Below w.heap.size w w78) := ⟨h28_⟩
     clear BK226 BK227
     clear BK228 BK229 HB
     clear h0_ h1_ h2_ h3_ h4_ h5_ h6_ h7_ h8_ h9_ h10_ h11_ h12_ h13_ h14_ h15_ h16_ h17_ h18_ h19_ h20_ h21_ h22_ h23_ h24_ h25_ h26_ h27_ h28_
     have BK226 := n0_
     have BK227 := n1_
     have BK228 := n2_
     have BK229 := n3_
     have BK247 := n4_
     have BK248 := n5_
     have HB := n28_
     clear n0_ n1_ n2_ n3_ n4_ n5_ n28_
     have hHeld : w78.cell? ⟨gb226, 0, none⟩ = some (.bool a2_0) ∧ w78.cell? ⟨gb226, 1, none⟩ = some (.int .i64 a2_1) ∧ w78.cell? ⟨gb226, 2, none⟩ = some (.int .i64 a2_2) ∧ w78.cell? ⟨gb227, 0, none⟩ = some (.bool a3_0) ∧ w78.cell? ⟨gb227, 1, none⟩ = some (.int .i64 a3_1) ∧ w78.cell? ⟨gb227, 2, none⟩ = some (.int .i64 a3_2) := hS_
     refine norm_ (a' := ?_) ?_ ?_
     rotate_left
     ·simp only [putAll, Act.put, List.setIfInBounds_toArray, List.set_cons_zero, List.set_cons_succ]
      rfl
     refine one_ (i := 10) (N := none) #[true, true, true, true, true, true, true, true, true, true, true, false] rfl rfl (one_of HT_.out (by kernel_rfl)) (by decide) (fun K hK => ?_)
     have hs79 : w78.cell? ⟨gb247, 0, none⟩ = some (.bool false) := bc_ BK247.out 0
     have hfs79 := blk_frozen BK247.out 0
     have hns79_0 := NB226_247.out
     have hns79_1 := NB227_247.out
     have hns79_2 := NB228_247.out
     have hns79_3 := NB229_247.out
     have hns79_5 := NB248_247.out
     have hms79_0 := NB247_226.out
     have hms79_1 := NB247_227.out
     have hms79_2 := NB247_228.out
     have hms79_3 := NB247_229.out
     have hms79_5 := NB247_248.out
     have hs80 : w78.cell? ⟨gb247, 1, none⟩ = some (.int .i64 0) := bc_ BK247.out 1
     have hfs80 := blk_frozen BK247.out 1
     have hns80_0 := NB226_247.out
     have hns80_1 := NB227_247.out
     have hns80_2 := NB228_247.out
     have hns80_3 := NB229_247.out
     have hns80_5 := NB248_247.out
     have hms80_0 := NB247_226.out
     have hms80_1 := NB247_227.out
     have hms80_2 := NB247_228.out
     have hms80_3 := NB247_229.out
     have hms80_5 := NB247_248.out
     have hs81 : w78.cell? ⟨gb247, 2, none⟩ = some (.int .i64 0) := bc_ BK247.out 2
     have hfs81 := blk_frozen BK247.out 2
     have hns81_0 := NB226_247.out
     have hns81_1 := NB227_247.out
     have hns81_2 := NB228_247.out
     have hns81_3 := NB229_247.out
     have hns81_5 := NB248_247.out
     have hms81_0 := NB247_226.out
     have hms81_1 := NB247_227.out
     have hms81_2 := NB247_228.out
     have hms81_3 := NB247_229.out
     have hms81_5 := NB247_248.out
     refine skip_ (w1 := ?_) (by rfl) rfl ?_ ?_
     rotate_left
     ·go_simp
      rfl
     refine hK.out _ _ ⟨((cell_far (p := ⟨gb247, _, none⟩) NB226_247.out _).trans (((cell_far (p := ⟨gb247, _, none⟩) NB226_247.out _).trans (((cell_far (p := ⟨gb247, _, none⟩) NB226_247.out _).trans (hHeld.1)))))), ((cell_far (p := ⟨gb247, _, none⟩) NB226_247.out _).trans (((cell_far (p := ⟨gb247, _, none⟩) NB226_247.out _).trans (((cell_far (p := ⟨gb247, _, none⟩) NB226_247.out _).trans (hHeld.2.1)))))), ((cell_far (p := ⟨gb247, _, none⟩) NB226_247.out _).trans (((cell_far (p := ⟨gb247, _, none⟩) NB226_247.out _).trans (((cell_far (p := ⟨gb247, _, none⟩) NB226_247.out _).trans (hHeld.2.2.1)))))), ((cell_far (p := ⟨gb247, _, none⟩) NB227_247.out _).trans (((cell_far (p := ⟨gb247, _, none⟩) NB227_247.out _).trans (((cell_far (p := ⟨gb247, _, none⟩) NB227_247.out _).trans (hHeld.2.2.2.1)))))), ((cell_far (p := ⟨gb247, _, none⟩) NB227_247.out _).trans (((cell_far (p := ⟨gb247, _, none⟩) NB227_247.out _).trans (((cell_far (p := ⟨gb247, _, none⟩) NB227_247.out _).trans (hHeld.2.2.2.2.1)))))), ((cell_far (p := ⟨gb247, _, none⟩) NB227_247.out _).trans (((cell_far (p := ⟨gb247, _, none⟩) NB227_247.out _).trans (((cell_far (p := ⟨gb247, _, none⟩) NB227_247.out _).trans (hHeld.2.2.2.2.2))))))⟩ (fun hHeld => ?_)
     clear hK K
     refine one_ (i := 11) (N := none) #[true, true, true, true, true, true, true, true, true, true, true, true] rfl rfl (one_of HT_.out (by kernel_rfl)) (by decide) (fun K hK => ?_)
     have hs82 : w78.cell? ⟨gb248, 0, none⟩ = some (.bool false) := bc_ BK248.out 0
     have hfs82 := blk_frozen BK248.out 0
     have hns82_0 := NB226_248.out
     have hns82_1 := NB227_248.out
     have hns82_2 := NB228_248.out
     have hns82_3 := NB229_248.out
     have hns82_4 := NB247_248.out
     have hms82_0 := NB248_226.out
     have hms82_1 := NB248_227.out
     have hms82_2 := NB248_228.out
     have hms82_3 := NB248_229.out
     have hms82_4 := NB248_247.out
     have hs83 : w78.cell? ⟨gb248, 1, none⟩ = some (.int .i64 0) := bc_ BK248.out 1
     have hfs83 := blk_frozen BK248.out 1
     have hns83_0 := NB226_248.out
     have hns83_1 := NB227_248.out
     have hns83_2 := NB228_248.out
     have hns83_3 := NB229_248.out
     have hns83_4 := NB247_248.out
     have hms83_0 := NB248_226.out
     have hms83_1 := NB248_227.out
     have hms83_2 := NB248_228.out
     have hms83_3 := NB248_229.out
     have hms83_4 := NB248_247.out
     have hs84 : w78.cell? ⟨gb248, 2, none⟩ = some (.int .i64 0) := bc_ BK248.out 2
     have hfs84 := blk_frozen BK248.out 2
     have hns84_0 := NB226_248.out
     have hns84_1 := NB227_248.out
     have hns84_2 := NB228_248.out
     have hns84_3 := NB229_248.out
     have hns84_4 := NB247_248.out
     have hms84_0 := NB248_226.out
     have hms84_1 := NB248_227.out
     have hms84_2 := NB248_228.out
     have hms84_3 := NB248_229.out
     have hms84_4 := NB248_247.out
     refine skip_ (w1 := ?_) (by rfl) rfl ?_ ?_
     rotate_left
     ·go_simp
      rfl
     refine hK.out _ _ ⟨((cell_far (p := ⟨gb248, _, none⟩) NB226_248.out _).trans (((cell_far (p := ⟨gb248, _, none⟩) NB226_248.out _).trans (((cell_far (p := ⟨gb248, _, none⟩) NB226_248.out _).trans (hHeld.1)))))), ((cell_far (p := ⟨gb248, _, none⟩) NB226_248.out _).trans (((cell_far (p := ⟨gb248, _, none⟩) NB226_248.out _).trans (((cell_far (p := ⟨gb248, _, none⟩) NB226_248.out _).trans (hHeld.2.1)))))), ((cell_far (p := ⟨gb248, _, none⟩) NB226_248.out _).trans (((cell_far (p := ⟨gb248, _, none⟩) NB226_248.out _).trans (((cell_far (p := ⟨gb248, _, none⟩) NB226_248.out _).trans (hHeld.2.2.1)))))), ((cell_far (p := ⟨gb248, _, none⟩) NB227_248.out _).trans (((cell_far (p := ⟨gb248, _, none⟩) NB227_248.out _).trans (((cell_far (p := ⟨gb248, _, none⟩) NB227_248.out _).trans (hHeld.2.2.2.1)))))), ((cell_far (p := ⟨gb248, _, none⟩) NB227_248.out _).trans (((cell_far (p := ⟨gb248, _, none⟩) NB227_248.out _).trans (((cell_far (p := ⟨gb248, _, none⟩) NB227_248.out _).trans (hHeld.2.2.2.2.1)))))), ((cell_far (p := ⟨gb248, _, none⟩) NB227_248.out _).trans (((cell_far (p := ⟨gb248, _, none⟩) NB227_248.out _).trans (((cell_far (p := ⟨gb248, _, none⟩) NB227_248.out _).trans (hHeld.2.2.2.2.2))))))⟩ (fun hHeld => ?_)
     clear hK K
     refine done_ (done_of HT_.out (by kernel_rfl)) ?_
     by_cases c65 : a1 = 1
     ·rw [if_pos c65] at H
      have c65b0 : (a1 == 1) = true := beq_iff_eq.mpr c65
      have c65b1 : (a1 != 1) = false := bne_eq_false_iff_eq.mpr c65
      clear c65
      replace H := Option.bind_eq_some_iff.mp H
      obtain ⟨t249, A660, H⟩ := H
      replace H : ((impl_some.f (wrap64 (-t249)) a3_2).bind fun bt250 => ((impl_SpanMeet.f kj4 a0 a2_0 a2_1 a2_2 bt250.1 bt250.2.1 bt250.2.2).bind fun bt253 => ((impl_from.f a0 a2_1).bind fun bt256 => ((impl_SpanMeet.f kj4 a0 a3_0 a3_1 a3_2 bt256.1 bt256.2.1 bt256.2.2).bind fun bt259 => (if bt253.1 = true then (if bt259.1 = true then (some (bt253.1, bt253.2.1, bt253.2.2, bt259.1, bt259.2.1, bt259.2.2)) else (some (false, 0, 0, false, 0, 0))) else (some (false, 0, 0, false, 0, 0))))))) = some (r1, r2, r3, r4, r5, r6) := H
      have A66 := A_ A660
      clear A660
      replace H := Option.bind_eq_some_iff.mp H
      obtain ⟨⟨t250, t251, t252⟩, A670, H⟩ := H
      replace H : ((impl_SpanMeet.f kj4 a0 a2_0 a2_1 a2_2 t250 t251 t252).bind fun bt253 => ((impl_from.f a0 a2_1).bind fun bt256 => ((impl_SpanMeet.f kj4 a0 a3_0 a3_1 a3_2 bt256.1 bt256.2.1 bt256.2.2).bind fun bt259 => (if bt253.1 = true then (if bt259.1 = true then (some (bt253.1, bt253.2.1, bt253.2.2, bt259.1, bt259.2.1, bt259.2.2)) else (some (false, 0, 0, false, 0, 0))) else (some (false, 0, 0, false, 0, 0)))))) = some (r1, r2, r3, r4, r5, r6) := H
      have A67 := A_ A670
      clear A670
      replace H := Option.bind_eq_some_iff.mp H
      obtain ⟨⟨t253, t254, t255⟩, A680, H⟩ := H
      replace H : ((impl_from.f a0 a2_1).bind fun bt256 => ((impl_SpanMeet.f kj4 a0 a3_0 a3_1 a3_2 bt256.1 bt256.2.1 bt256.2.2).bind fun bt259 => (if t253 = true then (if bt259.1 = true then (some (t253, t254, t255, bt259.1, bt259.2.1, bt259.2.2)) else (some (false, 0, 0, false, 0, 0))) else (some (false, 0, 0, false, 0, 0))))) = some (r1, r2, r3, r4, r5, r6) := H
      have A68 := A_ A680
      clear A680
      replace H := Option.bind_eq_some_iff.mp H
      obtain ⟨⟨t256, t257, t258⟩, A690, H⟩ := H
      replace H : ((impl_SpanMeet.f kj4 a0 a3_0 a3_1 a3_2 t256 t257 t258).bind fun bt259 => (if t253 = true then (if bt259.1 = true then (some (t253, t254, t255, bt259.1, bt259.2.1, bt259.2.2)) else (some (false, 0, 0, false, 0, 0))) else (some (false, 0, 0, false, 0, 0)))) = some (r1, r2, r3, r4, r5, r6) := H
      have A69 := A_ A690
      clear A690
      replace H := Option.bind_eq_some_iff.mp H
      obtain ⟨⟨t259, t260, t261⟩, A700, H⟩ := H
      replace H : (if t253 = true then (if t259 = true then (some (t253, t254, t255, t259, t260, t261)) else (some (false, 0, 0, false, 0, 0))) else (some (false, 0, 0, false, 0, 0))) = some (r1, r2, r3, r4, r5, r6) := H
      have A70 := A_ A700
      clear A700
      try go_wp2
      have n0_ : Aside0 (((((((w78.setCell ⟨gb247, 0, none⟩ (.bool t241)).setCell ⟨gb247, 1, none⟩ (.int .i64 t242)).setCell ⟨gb247, 2, none⟩ (.int .i64 t243)).setCell ⟨gb248, 0, none⟩ (.bool t241)).setCell ⟨gb248, 1, none⟩ (.int .i64 t242)).setCell ⟨gb248, 2, none⟩ (.int .i64 t243)).heap[gb226]? = some (.cells #[.bool a2_0, .int .i64 a2_1, .int .i64 a2_2] 24 (0, 0))) := ⟨by (with_reducible repeat (first | apply bn_ | apply bd_ | apply ba_)); refine blk_far ?_ NB226_248.out _; (with_reducible repeat (first | apply bn_ | apply bd_ | apply ba_)); refine blk_far ?_ NB226_248.out _; (with_reducible repeat (first | apply bn_ | apply bd_ | apply ba_)); refine blk_far ?_ NB226_248.out _; (with_reducible repeat (first | apply bn_ | apply bd_ | apply ba_)); refine blk_far ?_ NB226_247.out _; (with_reducible repeat (first | apply bn_ | apply bd_ | apply ba_)); refine blk_far ?_ NB226_247.out _; (with_reducible repeat (first | apply bn_ | apply bd_ | apply ba_)); refine blk_far ?_ NB226_247.out _; (with_reducible repeat (first | apply bn_ | apply bd_ | apply ba_)); exact BK226.out⟩
      have n1_ : Aside0 (((((((w78.setCell ⟨gb247, 0, none⟩ (.bool t241)).setCell ⟨gb247, 1, none⟩ (.int .i64 t242)).setCell ⟨gb247, 2, none⟩ (.int .i64 t243)).setCell ⟨gb248, 0, none⟩ (.bool t241)).setCell ⟨gb248, 1, none⟩ (.int .i64 t242)).setCell ⟨gb248, 2, none⟩ (.int .i64 t243)).heap[gb227]? = some (.cells #[.bool a3_0, .int .i64 a3_1, .int .i64 a3_2] 24 (0, 0))) := ⟨by (with_reducible repeat (first | apply bn_ | apply bd_ | apply ba_)); refine blk_far ?_ NB227_248.out _; (with_reducible repeat (first | apply bn_ | apply bd_ | apply ba_)); refine blk_far ?_ NB227_248.out _; (with_reducible repeat (first | apply bn_ | apply bd_ | apply ba_)); refine blk_far ?_ NB227_248.out _; (with_reducible repeat (first | apply bn_ | apply bd_ | apply ba_)); refine blk_far ?_ NB227_247.out _; (with_reducible repeat (first | apply bn_ | apply bd_ | apply ba_)); refine blk_far ?_ NB227_247.out _; (with_reducible repeat (first | apply bn_ | apply bd_ | apply ba_)); refine blk_far ?_ NB227_247.out _; (with_reducible repeat (first | apply bn_ | apply bd_ | apply ba_)); exact BK227.out⟩
      have n2_ : Aside0 (((((((w78.setCell ⟨gb247, 0, none⟩ (.bool t241)).setCell ⟨gb247, 1, none⟩ (.int .i64 t242)).setCell ⟨gb247, 2, none⟩ (.int .i64 t243)).setCell ⟨gb248, 0, none⟩ (.bool t241)).setCell ⟨gb248, 1, none⟩ (.int .i64 t242)).setCell ⟨gb248, 2, none⟩ (.int .i64 t243)).heap[gb228]? = some (.cells #[.bool false, .int .i64 0, .int .i64 0] 24 (0, 0))) := ⟨by (with_reducible repeat (first | apply bn_ | apply bd_ | apply ba_)); refine blk_far ?_ NB228_248.out _; (with_reducible repeat (first | apply bn_ | apply bd_ | apply ba_)); refine blk_far ?_ NB228_248.out _; (with_reducible repeat (first | apply bn_ | apply bd_ | apply ba_)); refine blk_far ?_ NB228_248.out _; (with_reducible repeat (first | apply bn_ | apply bd_ | apply ba_)); refine blk_far ?_ NB228_247.out _; (with_reducible repeat (first | apply bn_ | apply bd_ | apply ba_)); refine blk_far ?_ NB228_247.out _; (with_reducible repeat (first | apply bn_ | apply bd_ | apply ba_)); refine blk_far ?_ NB228_247.out _; (with_reducible repeat (first | apply bn_ | apply bd_ | apply ba_)); exact BK228.out⟩
      have n3_ : Aside0 (((((((w78.setCell ⟨gb247, 0, none⟩ (.bool t241)).setCell ⟨gb247, 1, none⟩ (.int .i64 t242)).setCell ⟨gb247, 2, none⟩ (.int .i64 t243)).setCell ⟨gb248, 0, none⟩ (.bool t241)).setCell ⟨gb248, 1, none⟩ (.int .i64 t242)).setCell ⟨gb248, 2, none⟩ (.int .i64 t243)).heap[gb229]? = some (.cells #[.bool false, .int .i64 0, .int .i64 0] 24 (0, 0))) := ⟨by (with_reducible repeat (first | apply bn_ | apply bd_ | apply ba_)); refine blk_far ?_ NB229_248.out _; (with_reducible repeat (first | apply bn_ | apply bd_ | apply ba_)); refine blk_far ?_ NB229_248.out _; (with_reducible repeat (first | apply bn_ | apply bd_ | apply ba_)); refine blk_far ?_ NB229_248.out _; (with_reducible repeat (first | apply bn_ | apply bd_ | apply ba_)); refine blk_far ?_ NB229_247.out _; (with_reducible repeat (first | apply bn_ | apply bd_ | apply ba_)); refine blk_far ?_ NB229_247.out _; (with_reducible repeat (first | apply bn_ | apply bd_ | apply ba_)); refine blk_far ?_ NB229_247.out _; (with_reducible repeat (first | apply bn_ | apply bd_ | apply ba_)); exact BK229.out⟩
      have n4_ : Aside0 (((((((w78.setCell ⟨gb247, 0, none⟩ (.bool t241)).setCell ⟨gb247, 1, none⟩ (.int .i64 t242)).setCell ⟨gb247, 2, none⟩ (.int .i64 t243)).setCell ⟨gb248, 0, none⟩ (.bool t241)).setCell ⟨gb248, 1, none⟩ (.int .i64 t242)).setCell ⟨gb248, 2, none⟩ (.int .i64 t243)).heap[gb247]? = some (.cells #[.bool t241, .int .i64 t242, .int .i64 t243] 24 (0, 0))) := ⟨by (with_reducible repeat (first | apply bn_ | apply bd_ | apply ba_)); refine blk_far ?_ NB247_248.out _; (with_reducible repeat (first | apply bn_ | apply bd_ | apply ba_)); refine blk_far ?_ NB247_248.out _; (with_reducible repeat (first | apply bn_ | apply bd_ | apply ba_)); refine blk_far ?_ NB247_248.out _; (with_reducible repeat (first | apply bn_ | apply bd_ | apply ba_)); refine blk_put (cs := #[.bool t241, .int .i64 t242, .int .i64 0]) ?_ 2 _ (by first | rfl | (simp [*]; done)); (with_reducible repeat (first | apply bn_ | apply bd_ | apply ba_)); refine blk_put (cs := #[.bool t241, .int .i64 0, .int .i64 0]) ?_ 1 _ (by first | rfl | (simp [*]; done)); (with_reducible repeat (first | apply bn_ | apply bd_ | apply ba_)); refine blk_put (cs := #[.bool false, .int .i64 0, .int .i64 0]) ?_ 0 _ (by first | rfl | (simp [*]; done)); (with_reducible repeat (first | apply bn_ | apply bd_ | apply ba_)); exact BK247.out⟩
      have n5_ : Aside0 (((((((w78.setCell ⟨gb247, 0, none⟩ (.bool t241)).setCell ⟨gb247, 1, none⟩ (.int .i64 t242)).setCell ⟨gb247, 2, none⟩ (.int .i64 t243)).setCell ⟨gb248, 0, none⟩ (.bool t241)).setCell ⟨gb248, 1, none⟩ (.int .i64 t242)).setCell ⟨gb248, 2, none⟩ (.int .i64 t243)).heap[gb248]? = some (.cells #[.bool t241, .int .i64 t242, .int .i64 t243] 24 (0, 0))) := ⟨by (with_reducible repeat (first | apply bn_ | apply bd_ | apply ba_)); refine blk_put (cs := #[.bool t241, .int .i64 t242, .int .i64 0]) ?_ 2 _ (by first | rfl | (simp [*]; done)); (with_reducible repeat (first | apply bn_ | apply bd_ | apply ba_)); refine blk_put (cs := #[.bool t241, .int .i64 0, .int .i64 0]) ?_ 1 _ (by first | rfl | (simp [*]; done)); (with_reducible repeat (first | apply bn_ | apply bd_ | apply ba_)); refine blk_put (cs := #[.bool false, .int .i64 0, .int .i64 0]) ?_ 0 _ (by first | rfl | (simp [*]; done)); (with_reducible repeat (first | apply bn_ | apply bd_ | apply ba_)); refine blk_far ?_ NB248_247.out _; (with_reducible repeat (first | apply bn_ | apply bd_ | apply ba_)); refine blk_far ?_ NB248_247.out _; (with_reducible repeat (first | apply bn_ | apply bd_ | apply ba_)); refine blk_far ?_ NB248_247.out _; (with_reducible repeat (first | apply bn_ | apply bd_ | apply ba_)); exact BK248.out⟩
      have n6_ : Aside0 (Below w.heap.size w ((((((w78.setCell ⟨gb247, 0, none⟩ (.bool t241)).setCell ⟨gb247, 1, none⟩ (.int .i64 t242)).setCell ⟨gb247, 2, none⟩ (.int .i64 t243)).setCell ⟨gb248, 0, none⟩ (.bool t241)).setCell ⟨gb248, 1, none⟩ (.int .i64 t242)).setCell ⟨gb248, 2, none⟩ (.int .i64 t243))) := ⟨by repeat (first | (with_reducible first | exact HB.out | apply b1_ | apply b2_ | apply b3_ | apply c_ GE226 | apply c_ GE227 | apply c_ GE228 | apply c_ GE229 | apply c_ GE247 | apply c_ GE248) | exact HB.out)⟩
      (try clear BK226)
      (try clear BK227)
      (try clear BK228)
      (try clear BK229)
      (try clear BK247)
      (try clear BK248)
      (try clear HB)
      generalize ((((((w78.setCell ⟨gb247, 0, none⟩ (.bool t241)).setCell ⟨gb247, 1, none⟩ (.int .i64 t242)).setCell ⟨gb247, 2, none⟩ (.int .i64 t243)).setCell ⟨gb248, 0, none⟩ (.bool t241)).setCell ⟨gb248, 1, none⟩ (.int .i64 t242)).setCell ⟨gb248, 2, none⟩ (.int .i64 t243)) = w85 at n0_ n1_ n2_ n3_ n4_ n5_ n6_ ⊢
      have BK226 := n0_
      have BK227 := n1_
      have BK228 := n2_
      have BK229 := n3_
      have BK247 := n4_
      have BK248 := n5_
      have HB := n6_
      clear n0_ n1_ n2_ n3_ n4_ n5_ n6_
      have n0_ := A_ (blk_drew BK226.out)
      have n1_ := A_ (blk_drew BK227.out)
      have n2_ := A_ (blk_drew BK228.out)
      have n3_ := A_ (blk_drew BK229.out)
      have n4_ := A_ (blk_drew BK247.out)
      have n5_ := A_ (blk_drew BK248.out)
      have n6_ := A_ (below_drew1 HB.out)
      clear BK226 BK227
      clear BK228 BK229
      clear BK247 BK248 HB
      have BK226 := n0_
      have BK227 := n1_
      have BK228 := n2_
      have BK229 := n3_
      have BK247 := n4_
      have BK248 := n5_
      have HB := n6_
      clear n0_ n1_ n2_ n3_ n4_ n5_ n6_
      refine start_ (n := 18) (S := fun w' => w'.cell? ⟨gb226, 0, none⟩ = some (.bool a2_0) ∧ w'.cell? ⟨gb226, 1, none⟩ = some (.int .i64 a2_1) ∧ w'.cell? ⟨gb226, 2, none⟩ = some (.int .i64 a2_2) ∧ w'.cell? ⟨gb227, 0, none⟩ = some (.bool a3_0) ∧ w'.cell? ⟨gb227, 1, none⟩ = some (.int .i64 a3_1) ∧ w'.cell? ⟨gb227, 2, none⟩ = some (.int .i64 a3_2)) (ds := []) #[false, false, false, false, false, false, false, false, false, false, false, false, false, false, false, false, false, false] (by kernel_rfl) rfl rfl ⟨bc_ BK226.out 0, bc_ BK226.out 1, bc_ BK226.out 2, bc_ BK227.out 0, bc_ BK227.out 1, bc_ BK227.out 2⟩ (fun hHeld => ?_); refine with_tabW impl_RelMeet.tab8 impl_RelMeet.bits8 (fun HT_ HW_ => ?_)
      generalize w85.drew = w86 at BK226 BK227 BK228 BK229 BK247 BK248 HB hHeld ⊢
      refine pure_ (i := 0) (N := some 46) (v := ?_) (a' := ?_) #[true, false, false, false, false, false, false, false, false, false, false, false, false, false, false, false, false, false] rfl rfl (any_of HT_.out (by kernel_rfl)) (fun _ _ _ h => h) (Or.inl ⟨by rfl, ?_⟩) ?_ ?_
      rotate_left
      ·intro w'
       go_simp
       with_reducible rfl
      rotate_left
      ·simp only [Act.put, x1_, x2_, x3_, i64_w, i32_w]
       rfl
      refine pure_ (i := 2) (N := some 48) (v := ?_) (a' := ?_) #[true, false, true, false, false, false, false, false, false, false, false, false, false, false, false, false, false, false] rfl rfl (any_of HT_.out (by kernel_rfl)) (fun _ _ _ h => h) (Or.inl ⟨by rfl, ?_⟩) ?_ ?_
      rotate_left
      ·intro w'
       go_simp
       with_reducible rfl
      rotate_left
      ·simp only [Act.put, x1_, x2_, x3_, i64_w, i32_w]
       rfl
      refine pure_ (i := 5) (N := some 51) (v := ?_) (a' := ?_) #[true, false, true, false, false, true, false, false, false, false, false, false, false, false, false, false, false, false] rfl rfl (any_of HT_.out (by kernel_rfl)) (fun _ _ _ h => h) (Or.inl ⟨by rfl, ?_⟩) ?_ ?_
      rotate_left
      ·intro w'
       go_simp
       with_reducible rfl
      rotate_left
      ·simp only [Act.put, x1_, x2_, x3_, i64_w, i32_w]
       rfl
      refine pure_ (i := 9) (N := some 55) (v := ?_) (a' := ?_) #[true, false, true, false, false, true, false, false, false, true, false, false, false, false, false, false, false, false] rfl rfl (any_of HT_.out (by kernel_rfl)) (fun _ _ _ h => h) (Or.inl ⟨by rfl, ?_⟩) ?_ ?_
      rotate_left
      ·intro w'
       go_simp
       with_reducible rfl
      rotate_left
      ·simp only [Act.put, x1_, x2_, x3_, i64_w, i32_w]
       rfl
      refine pure_ (i := 11) (N := some 57) (v := ?_) (a' := ?_) #[true, false, true, false, false, true, false, false, false, true, false, true, false, false, false, false, false, false] rfl rfl (any_of HT_.out (by kernel_rfl)) (fun _ _ _ h => h) (Or.inl ⟨by rfl, ?_⟩) ?_ ?_
      rotate_left
      ·intro w'
       go_simp
       with_reducible rfl
      rotate_left
      ·simp only [Act.put, x1_, x2_, x3_, i64_w, i32_w]
       rfl
      refine pure_ (i := 12) (N := some 58) (v := ?_) (a' := ?_) #[true, false, true, false, false, true, false, false, false, true, false, true, true, false, false, false, false, false] rfl rfl (any_of HT_.out (by kernel_rfl)) (fun _ _ _ h => h) (Or.inl ⟨by rfl, ?_⟩) ?_ ?_
      rotate_left
      ·intro w'
       go_simp
       with_reducible rfl
      rotate_left
      ·simp only [Act.put, x1_, x2_, x3_, i64_w, i32_w]
       rfl
      refine take_ (i := 1) (N := some 47) (v := ?_) (a' := ?_) #[true, true, true, false, false, true, false, false, false, true, false, true, true, false, false, false, false, false] rfl rfl (take_ofW HT_.out HW_.out (by kernel_rfl)) (fun _ _ _ h => h) (Or.inl ⟨by rfl, ?_⟩) hHeld ?_ ?_
      rotate_left
      ·rintro w' ⟨s0, s1, s2, s3, s4, s5⟩
       go_simp
       with_reducible rfl
      rotate_left
      ·simp only [Act.put, x1_, x2_, x3_, i64_w, i32_w]
       rfl
      refine take_ (i := 6) (N := some 52) (v := ?_) (a' := ?_) #[true, true, true, false, false, true, true, false, false, true, false, true, true, false, false, false, false, false] rfl rfl (take_ofW HT_.out HW_.out (by kernel_rfl)) (fun _ _ _ h => h) (Or.inl ⟨by rfl, ?_⟩) hHeld ?_ ?_
      rotate_left
      ·rintro w' ⟨s0, s1, s2, s3, s4, s5⟩
       go_simp
       with_reducible rfl
      rotate_left
      ·simp only [Act.put, x1_, x2_, x3_, i64_w, i32_w]
       rfl
      refine take_ (i := 10) (N := some 56) (v := ?_) (a' := ?_) #[true, true, true, false, false, true, true, false, false, true, true, true, true, false, false, false, false, false] rfl rfl (take_ofW HT_.out HW_.out (by kernel_rfl)) (fun _ _ _ h => h) (Or.inl ⟨by rfl, ?_⟩) hHeld ?_ ?_
      rotate_left
      ·rintro w' ⟨s0, s1, s2, s3, s4, s5⟩
       go_simp
       with_reducible rfl
      rotate_left
      ·simp only [Act.put, x1_, x2_, x3_, i64_w, i32_w]
       rfl
      refine take_ (i := 13) (N := some 59) (v := ?_) (a' := ?_) #[true, true, true, false, false, true, true, false, false, true, true, true, true, true, false, false, false, false] rfl rfl (take_ofW HT_.out HW_.out (by kernel_rfl)) (fun _ _ _ h => h) (Or.inl ⟨by rfl, ?_⟩) hHeld ?_ ?_
      rotate_left
      ·rintro w' ⟨s0, s1, s2, s3, s4, s5⟩
       go_simp
       with_reducible rfl
      rotate_left
      ·simp only [Act.put, x1_, x2_, x3_, i64_w, i32_w]
       rfl
      refine one_ (i := 3) (N := some 49) #[true, true, true, true, false, true, true, false, false, true, true, true, true, true, false, false, false, false] rfl rfl (one_of HT_.out (by kernel_rfl)) (by decide) (fun K hK => ?_)
      refine goes_ Try.func41 (by kernel_rfl) rfl #[.int .i64 a0] (by rfl) rfl rfl (by (try simp only [List.map_toArray, List.map_cons, List.map_nil]); first | done | rfl) ?_
      with_reducible refine (impl_BitTop.calls a0 t249 _ A66.out).mono ?_
      rintro e w87 ⟨rfl, hb⟩
      refine ⟨_, rfl, ?_⟩
      have n0_ := A_ (blk_below (bz_ BK226.out) hb)
      have n1_ := A_ (blk_below (bz_ BK227.out) hb)
      have n2_ := A_ (blk_below (bz_ BK228.out) hb)
      have n3_ := A_ (blk_below (bz_ BK229.out) hb)
      have n4_ := A_ (blk_below (bz_ BK247.out) hb)
      have n5_ := A_ (blk_below (bz_ BK248.out) hb)
      have n6_ := A_ (below_step hB_ hb)
      clear BK226 BK227
      clear BK228 BK229
      clear BK247 BK248 HB
      have BK226 := n0_
      have BK227 := n1_
      have BK228 := n2_
      have BK229 := n3_
      have BK247 := n4_
      have BK248 := n5_
      have HB := n6_
      clear n0_ n1_ n2_ n3_ n4_ n5_ n6_
      (try clear hb)
      (try clear hb2)
      (try clear hk)
      (try clear hi)
      refine hK.out _ _ ⟨bc_ BK226.out 0, bc_ BK226.out 1, bc_ BK226.out 2, bc_ BK227.out 0, bc_ BK227.out 1, bc_ BK227.out 2⟩ (fun hHeld => ?_)
      clear hK K
      refine norm_ (a' := ?_) ?_ ?_
      rotate_left
      ·show Act.put _ (some 49) _ = _
       simp only [Act.put, x1_, x2_, x3_, i64_w, i32_w]
       rfl
      refine pure_ (i := 4) (N := some 50) (v := ?_) (a' := ?_) #[true, true, true, true, true, true, true, false, false, true, true, true, true, true, false, false, false, false] rfl rfl (any_of HT_.out (by kernel_rfl)) (fun _ _ _ h => h) (Or.inl ⟨by rfl, ?_⟩) ?_ ?_
      rotate_left
      ·intro w'
       go_simp
       with_reducible rfl
      rotate_left
      ·simp only [Act.put, x1_, x2_, x3_, i64_w, i32_w]
       rfl
      refine one_ (i := 7) (N := some 53) #[true, true, true, true, true, true, true, true, false, true, true, true, true, true, false, false, false, false] rfl rfl (one_of HT_.out (by kernel_rfl)) (by decide) (fun K hK => ?_)
      refine goes_ Try.func40 (by kernel_rfl) rfl #[.int .i64 (wrap64 (-t249)), .int .i64 a3_2] (by rfl) rfl rfl (by (try simp only [List.map_toArray, List.map_cons, List.map_nil]); first | done | rfl) ?_
      with_reducible refine (impl_some.calls (wrap64 (-t249)) a3_2 t250 t251 t252 _ A67.out).mono ?_
      rintro e w88 ⟨rfl, hb⟩
      refine ⟨_, rfl, ?_⟩
      have n0_ := A_ (blk_below (bz_ BK226.out) hb)
      have n1_ := A_ (blk_below (bz_ BK227.out) hb)
      have n2_ := A_ (blk_below (bz_ BK228.out) hb)
      have n3_ := A_ (blk_below (bz_ BK229.out) hb)
      have n4_ := A_ (blk_below (bz_ BK247.out) hb)
      have n5_ := A_ (blk_below (bz_ BK248.out) hb)
      have n6_ := A_ (below_step hB_ hb)
      clear BK226 BK227
      clear BK228 BK229
      clear BK247 BK248 HB
      have BK226 := n0_
      have BK227 := n1_
      have BK228 := n2_
      have BK229 := n3_
      have BK247 := n4_
      have BK248 := n5_
      have HB := n6_
      clear n0_ n1_ n2_ n3_ n4_ n5_ n6_
      (try clear hb)
      (try clear hb2)
      (try clear hk)
      (try clear hi)
      refine hK.out _ _ ⟨bc_ BK226.out 0, bc_ BK226.out 1, bc_ BK226.out 2, bc_ BK227.out 0, bc_ BK227.out 1, bc_ BK227.out 2⟩ (fun hHeld => ?_)
      clear hK K
      refine norm_ (a' := ?_) ?_ ?_
      rotate_left
      ·show Act.put _ (some 53) _ = _
       simp only [Act.put, x1_, x2_, x3_, i64_w, i32_w]
       rfl
      refine one_ (i := 8) (N := some 54) #[true, true, true, true, true, true, true, true, true, true, true, true, true, true, false, false, false, false] rfl rfl (one_of HT_.out (by kernel_rfl)) (by decide) (fun K hK => ?_)
      refine goes_ Try.func39 (by kernel_rfl) rfl #[.int .i64 a0, .agg #[.bool a2_0, .int .i64 a2_1, .int .i64 a2_2], .agg #[.bool t250, .int .i64 t251, .int .i64 t252]] (by rfl) rfl rfl (by (try simp only [List.map_toArray, List.map_cons, List.map_nil]); first | done | rfl) ?_
      with_reducible refine (impl_SpanMeet.calls kj4 a0 a2_0 a2_1 a2_2 t250 t251 t252 t253 t254 t255 _ A68.out).mono ?_
      rintro e w89 ⟨rfl, hb⟩
      refine ⟨_, rfl, ?_⟩
      have n0_ := A_ (blk_below (bz_ BK226.out) hb)
      have n1_ := A_ (blk_below (bz_ BK227.out) hb)
      have n2_ := A_ (blk_below (bz_ BK228.out) hb)
      have n3_ := A_ (blk_below (bz_ BK229.out) hb)
      have n4_ := A_ (blk_below (bz_ BK247.out) hb)
      have n5_ := A_ (blk_below (bz_ BK248.out) hb)
      have n6_ := A_ (below_step hB_ hb)
      clear BK226 BK227
      clear BK228 BK229
      clear BK247 BK248 HB
      have BK226 := n0_
      have BK227 := n1_
      have BK228 := n2_
      have BK229 := n3_
      have BK247 := n4_
      have BK248 := n5_
      have HB := n6_
      clear n0_ n1_ n2_ n3_ n4_ n5_ n6_
      (try clear hb)
      (try clear hb2)
      (try clear hk)
      (try clear hi)
      refine hK.out _ _ ⟨bc_ BK226.out 0, bc_ BK226.out 1, bc_ BK226.out 2, bc_ BK227.out 0, bc_ BK227.out 1, bc_ BK227.out 2⟩ (fun hHeld => ?_)
      clear hK K
      refine norm_ (a' := ?_) ?_ ?_
      rotate_left
      ·show Act.put _ (some 54) _ = _
       simp only [Act.put, x1_, x2_, x3_, i64_w, i32_w]
       rfl
      refine one_ (i := 14) (N := some 60) #[true, true, true, true, true, true, true, true, true, true, true, true, true, true, true, false, false, false] rfl rfl (one_of HT_.out (by kernel_rfl)) (by decide) (fun K hK => ?_)
      refine goes_ Try.func42 (by kernel_rfl) rfl #[.int .i64 a0, .int .i64 a2_1] (by rfl) rfl rfl (by (try simp only [List.map_toArray, List.map_cons, List.map_nil]); first | done | rfl) ?_
      with_reducible refine (impl_from.calls a0 a2_1 t256 t257 t258 _ A69.out).mono ?_
      rintro e w90 ⟨rfl, hb⟩
      refine ⟨_, rfl, ?_⟩
      have n0_ := A_ (blk_below (bz_ BK226.out) hb)
      have n1_ := A_ (blk_below (bz_ BK227.out) hb)
      have n2_ := A_ (blk_below (bz_ BK228.out) hb)
      have n3_ := A_ (blk_below (bz_ BK229.out) hb)
      have n4_ := A_ (blk_below (bz_ BK247.out) hb)
      have n5_ := A_ (blk_below (bz_ BK248.out) hb)
      have n6_ := A_ (below_step hB_ hb)
      clear BK226 BK227
      clear BK228 BK229
      clear BK247 BK248 HB
      have BK226 := n0_
      have BK227 := n1_
      have BK228 := n2_
      have BK229 := n3_
      have BK247 := n4_
      have BK248 := n5_
      have HB := n6_
      clear n0_ n1_ n2_ n3_ n4_ n5_ n6_
      (try clear hb)
      (try clear hb2)
      (try clear hk)
      (try clear hi)
      refine hK.out _ _ ⟨bc_ BK226.out 0, bc_ BK226.out 1, bc_ BK226.out 2, bc_ BK227.out 0, bc_ BK227.out 1, bc_ BK227.out 2⟩ (fun hHeld => ?_)
      clear hK K
      refine norm_ (a' := ?_) ?_ ?_
      rotate_left
      ·show Act.put _ (some 60) _ = _
       simp only [Act.put, x1_, x2_, x3_, i64_w, i32_w]
       rfl
      refine one_ (i := 15) (N := some 61) #[true, true, true, true, true, true, true, true, true, true, true, true, true, true, true, true, false, false] rfl rfl (one_of HT_.out (by kernel_rfl)) (by decide) (fun K hK => ?_)
      refine goes_ Try.func39 (by kernel_rfl) rfl #[.int .i64 a0, .agg #[.bool a3_0, .int .i64 a3_1, .int .i64 a3_2], .agg #[.bool t256, .int .i64 t257, .int .i64 t258]] (by rfl) rfl rfl (by (try simp only [List.map_toArray, List.map_cons, List.map_nil]); first | done | rfl) ?_
      with_reducible refine (impl_SpanMeet.calls kj4 a0 a3_0 a3_1 a3_2 t256 t257 t258 t259 t260 t261 _ A70.out).mono ?_
      rintro e w91 ⟨rfl, hb⟩
      refine ⟨_, rfl, ?_⟩
      have n0_ := A_ (blk_below (bz_ BK226.out) hb)
      have n1_ := A_ (blk_below (bz_ BK227.out) hb)
      have n2_ := A_ (blk_below (bz_ BK228.out) hb)
      have n3_ := A_ (blk_below (bz_ BK229.out) hb)
      have n4_ := A_ (blk_below (bz_ BK247.out) hb)
      have n5_ := A_ (blk_below (bz_ BK248.out) hb)
      have n6_ := A_ (below_step hB_ hb)
      clear BK226 BK227
      clear BK228 BK229
      clear BK247 BK248 HB
      have BK226 := n0_
      have BK227 := n1_
      have BK228 := n2_
      have BK229 := n3_
      have BK247 := n4_
      have BK248 := n5_
      have HB := n6_
      clear n0_ n1_ n2_ n3_ n4_ n5_ n6_
      (try clear hb)
      (try clear hb2)
      (try clear hk)
      (try clear hi)
      refine hK.out _ _ ⟨bc_ BK226.out 0, bc_ BK226.out 1, bc_ BK226.out 2, bc_ BK227.out 0, bc_ BK227.out 1, bc_ BK227.out 2⟩ (fun hHeld => ?_)
      clear hK K
      refine norm_ (a' := ?_) ?_ ?_
      rotate_left
      ·show Act.put _ (some 61) _ = _
       simp only [Act.put, x1_, x2_, x3_, i64_w, i32_w]
       rfl
      refine one_ (i := 16) (N := none) #[true, true, true, true, true, true, true, true, true, true, true, true, true, true, true, true, true, false] rfl rfl (one_of HT_.out (by kernel_rfl)) (by decide) (fun K hK => ?_)
      have hs92 : w91.cell? ⟨gb247, 0, none⟩ = some (.bool t241) := bc_ BK247.out 0
      have hfs92 := blk_frozen BK247.out 0
      have hns92_0 := NB226_247.out
      have hns92_1 := NB227_247.out
      have hns92_2 := NB228_247.out
      have hns92_3 := NB229_247.out
      have hns92_5 := NB248_247.out
      have hms92_0 := NB247_226.out
      have hms92_1 := NB247_227.out
      have hms92_2 := NB247_228.out
      have hms92_3 := NB247_229.out
      have hms92_5 := NB247_248.out
      have hs93 : w91.cell? ⟨gb247, 1, none⟩ = some (.int .i64 t242) := bc_ BK247.out 1
      have hfs93 := blk_frozen BK247.out 1
      have hns93_0 := NB226_247.out
      have hns93_1 := NB227_247.out
      have hns93_2 := NB228_247.out
      have hns93_3 := NB229_247.out
      have hns93_5 := NB248_247.out
      have hms93_0 := NB247_226.out
      have hms93_1 := NB247_227.out
      have hms93_2 := NB247_228.out
      have hms93_3 := NB247_229.out
      have hms93_5 := NB247_248.out
      have hs94 : w91.cell? ⟨gb247, 2, none⟩ = some (.int .i64 t243) := bc_ BK247.out 2
      have hfs94 := blk_frozen BK247.out 2
      have hns94_0 := NB226_247.out
      have hns94_1 := NB227_247.out
      have hns94_2 := NB228_247.out
      have hns94_3 := NB229_247.out
      have hns94_5 := NB248_247.out
      have hms94_0 := NB247_226.out
      have hms94_1 := NB247_227.out
      have hms94_2 := NB247_228.out
      have hms94_3 := NB247_229.out
      have hms94_5 := NB247_248.out
      refine skip_ (w1 := ?_) (by rfl) rfl ?_ ?_
      rotate_left
      ·go_simp
       rfl
      refine hK.out _ _ ⟨((cell_far (p := ⟨gb247, _, none⟩) NB226_247.out _).trans (((cell_far (p := ⟨gb247, _, none⟩) NB226_247.out _).trans (((cell_far (p := ⟨gb247, _, none⟩) NB226_247.out _).trans (hHeld.1)))))), ((cell_far (p := ⟨gb247, _, none⟩) NB226_247.out _).trans (((cell_far (p := ⟨gb247, _, none⟩) NB226_247.out _).trans (((cell_far (p := ⟨gb247, _, none⟩) NB226_247.out _).trans (hHeld.2.1)))))), ((cell_far (p := ⟨gb247, _, none⟩) NB226_247.out _).trans (((cell_far (p := ⟨gb247, _, none⟩) NB226_247.out _).trans (((cell_far (p := ⟨gb247, _, none⟩) NB226_247.out _).trans (hHeld.2.2.1)))))), ((cell_far (p := ⟨gb247, _, none⟩) NB227_247.out _).trans (((cell_far (p := ⟨gb247, _, none⟩) NB227_247.out _).trans (((cell_far (p := ⟨gb247, _, none⟩) NB227_247.out _).trans (hHeld.2.2.2.1)))))), ((cell_far (p := ⟨gb247, _, none⟩) NB227_247.out _).trans (((cell_far (p := ⟨gb247, _, none⟩) NB227_247.out _).trans (((cell_far (p := ⟨gb247, _, none⟩) NB227_247.out _).trans (hHeld.2.2.2.2.1)))))), ((cell_far (p := ⟨gb247, _, none⟩) NB227_247.out _).trans (((cell_far (p := ⟨gb247, _, none⟩) NB227_247.out _).trans (((cell_far (p := ⟨gb247, _, none⟩) NB227_247.out _).trans (hHeld.2.2.2.2.2))))))⟩ (fun hHeld => ?_)
      clear hK K
      refine one_ (i := 17) (N := none) #[true, true, true, true, true, true, true, true, true, true, true, true, true, true, true, true, true, true] rfl rfl (one_of HT_.out (by kernel_rfl)) (by decide) (fun K hK => ?_)
      have hs95 : w91.cell? ⟨gb248, 0, none⟩ = some (.bool t241) := bc_ BK248.out 0
      have hfs95 := blk_frozen BK248.out 0
      have hns95_0 := NB226_248.out
      have hns95_1 := NB227_248.out
      have hns95_2 := NB228_248.out
      have hns95_3 := NB229_248.out
      have hns95_4 := NB247_248.out
      have hms95_0 := NB248_226.out
      have hms95_1 := NB248_227.out
      have hms95_2 := NB248_228.out
      have hms95_3 := NB248_229.out
      have hms95_4 := NB248_247.out
      have hs96 : w91.cell? ⟨gb248, 1, none⟩ = some (.int .i64 t242) := bc_ BK248.out 1
      have hfs96 := blk_frozen BK248.out 1
      have hns96_0 := NB226_248.out
      have hns96_1 := NB227_248.out
      have hns96_2 := NB228_248.out
      have hns96_3 := NB229_248.out
      have hns96_4 := NB247_248.out
      have hms96_0 := NB248_226.out
      have hms96_1 := NB248_227.out
      have hms96_2 := NB248_228.out
      have hms96_3 := NB248_229.out
      have hms96_4 := NB248_247.out
      have hs97 : w91.cell? ⟨gb248, 2, none⟩ = some (.int .i64 t243) := bc_ BK248.out 2
      have hfs97 := blk_frozen BK248.out 2
      have hns97_0 := NB226_248.out
      have hns97_1 := NB227_248.out
      have hns97_2 := NB228_248.out
      have hns97_3 := NB229_248.out
      have hns97_4 := NB247_248.out
      have hms97_0 := NB248_226.out
      have hms97_1 := NB248_227.out
      have hms97_2 := NB248_228.out
      have hms97_3 := NB248_229.out
      have hms97_4 := NB248_247.out
      refine skip_ (w1 := ?_) (by rfl) rfl ?_ ?_
      rotate_left
      ·go_simp
       rfl
      refine hK.out _ _ ⟨((cell_far (p := ⟨gb248, _, none⟩) NB226_248.out _).trans (((cell_far (p := ⟨gb248, _, none⟩) NB226_248.out _).trans (((cell_far (p := ⟨gb248, _, none⟩) NB226_248.out _).trans (hHeld.1)))))), ((cell_far (p := ⟨gb248, _, none⟩) NB226_248.out _).trans (((cell_far (p := ⟨gb248, _, none⟩) NB226_248.out _).trans (((cell_far (p := ⟨gb248, _, none⟩) NB226_248.out _).trans (hHeld.2.1)))))), ((cell_far (p := ⟨gb248, _, none⟩) NB226_248.out _).trans (((cell_far (p := ⟨gb248, _, none⟩) NB226_248.out _).trans (((cell_far (p := ⟨gb248, _, none⟩) NB226_248.out _).trans (hHeld.2.2.1)))))), ((cell_far (p := ⟨gb248, _, none⟩) NB227_248.out _).trans (((cell_far (p := ⟨gb248, _, none⟩) NB227_248.out _).trans (((cell_far (p := ⟨gb248, _, none⟩) NB227_248.out _).trans (hHeld.2.2.2.1)))))), ((cell_far (p := ⟨gb248, _, none⟩) NB227_248.out _).trans (((cell_far (p := ⟨gb248, _, none⟩) NB227_248.out _).trans (((cell_far (p := ⟨gb248, _, none⟩) NB227_248.out _).trans (hHeld.2.2.2.2.1)))))), ((cell_far (p := ⟨gb248, _, none⟩) NB227_248.out _).trans (((cell_far (p := ⟨gb248, _, none⟩) NB227_248.out _).trans (((cell_far (p := ⟨gb248, _, none⟩) NB227_248.out _).trans (hHeld.2.2.2.2.2))))))⟩ (fun hHeld => ?_)
      clear hK K
      refine done_ (done_of HT_.out (by kernel_rfl)) ?_
      by_cases c71 : t253 = true
      ·subst c71
       have H1 : (if t259 = true then (some (true, t254, t255, t259, t260, t261)) else (some (false, 0, 0, false, 0, 0))) = some (r1, r2, r3, r4, r5, r6) := by rw [if_pos rfl] at H; exact H
       clear H
       have H := H1
       clear H1
       by_cases c72 : t259 = true
       ·subst c72
        have H1 : (some (true, t254, t255, true, t260, t261)) = some (r1, r2, r3, r4, r5, r6) := by rw [if_pos rfl] at H; exact H
        clear H
        have H := H1
        clear H1
        simp only [Option.some.injEq, Prod.mk.injEq] at H
        obtain ⟨rfl, rfl, rfl, rfl, rfl, rfl⟩ := H
        have hnb98 := NB247_226.out
        have hnc98 := NB226_247.out
        have hnb99 := NB247_227.out
        have hnc99 := NB227_247.out
        have hnb100 := NB247_228.out
        have hnc100 := NB228_247.out
        have hnb101 := NB247_229.out
        have hnc101 := NB229_247.out
        have hnb102 := NB247_248.out
        have hnc102 := NB248_247.out
        have hcz103_0 : w91.cell? ⟨gb247, 0, none⟩ = some (.bool t241) := bc_ BK247.out 0
        have hcz103_1 : w91.cell? ⟨gb247, 1, none⟩ = some (.int .i64 t242) := bc_ BK247.out 1
        have hcz103_2 : w91.cell? ⟨gb247, 2, none⟩ = some (.int .i64 t243) := bc_ BK247.out 2
        have hfz103_0 := blk_frozen BK247.out 0
        have hfz103_1 := blk_frozen BK247.out 1
        have hfz103_2 := blk_frozen BK247.out 2
        have hnb104 := NB248_226.out
        have hnc104 := NB226_248.out
        have hnb105 := NB248_227.out
        have hnc105 := NB227_248.out
        have hnb106 := NB248_228.out
        have hnc106 := NB228_248.out
        have hnb107 := NB248_229.out
        have hnc107 := NB229_248.out
        have hcz108_0 : w91.cell? ⟨gb248, 0, none⟩ = some (.bool t241) := bc_ BK248.out 0
        have hcz108_1 : w91.cell? ⟨gb248, 1, none⟩ = some (.int .i64 t242) := bc_ BK248.out 1
        have hcz108_2 : w91.cell? ⟨gb248, 2, none⟩ = some (.int .i64 t243) := bc_ BK248.out 2
        have hfz108_0 := blk_frozen BK248.out 0
        have hfz108_1 := blk_frozen BK248.out 1
        have hfz108_2 := blk_frozen BK248.out 2
        try go_wp2
        have n0_ : Aside0 (((((((w91.setCell ⟨gb247, 0, none⟩ (.bool true)).setCell ⟨gb247, 1, none⟩ (.int .i64 t254)).setCell ⟨gb247, 2, none⟩ (.int .i64 t255)).setCell ⟨gb248, 0, none⟩ (.bool true)).setCell ⟨gb248, 1, none⟩ (.int .i64 t260)).setCell ⟨gb248, 2, none⟩ (.int .i64 t261)).heap[gb226]? = some (.cells #[.bool a2_0, .int .i64 a2_1, .int .i64 a2_2] 24 (0, 0))) := ⟨by (with_reducible repeat (first | apply bn_ | apply bd_ | apply ba_)); refine blk_far ?_ NB226_248.out _; (with_reducible repeat (first | apply bn_ | apply bd_ | apply ba_)); refine blk_far ?_ NB226_248.out _; (with_reducible repeat (first | apply bn_ | apply bd_ | apply ba_)); refine blk_far ?_ NB226_248.out _; (with_reducible repeat (first | apply bn_ | apply bd_ | apply ba_)); refine blk_far ?_ NB226_247.out _; (with_reducible repeat (first | apply bn_ | apply bd_ | apply ba_)); refine blk_far ?_ NB226_247.out _; (with_reducible repeat (first | apply bn_ | apply bd_ | apply ba_)); refine blk_far ?_ NB226_247.out _; (with_reducible repeat (first | apply bn_ | apply bd_ | apply ba_)); exact BK226.out⟩
        have n1_ : Aside0 (((((((w91.setCell ⟨gb247, 0, none⟩ (.bool true)).setCell ⟨gb247, 1, none⟩ (.int .i64 t254)).setCell ⟨gb247, 2, none⟩ (.int .i64 t255)).setCell ⟨gb248, 0, none⟩ (.bool true)).setCell ⟨gb248, 1, none⟩ (.int .i64 t260)).setCell ⟨gb248, 2, none⟩ (.int .i64 t261)).heap[gb227]? = some (.cells #[.bool a3_0, .int .i64 a3_1, .int .i64 a3_2] 24 (0, 0))) := ⟨by (with_reducible repeat (first | apply bn_ | apply bd_ | apply ba_)); refine blk_far ?_ NB227_248.out _; (with_reducible repeat (first | apply bn_ | apply bd_ | apply ba_)); refine blk_far ?_ NB227_248.out _; (with_reducible repeat (first | apply bn_ | apply bd_ | apply ba_)); refine blk_far ?_ NB227_248.out _; (with_reducible repeat (first | apply bn_ | apply bd_ | apply ba_)); refine blk_far ?_ NB227_247.out _; (with_reducible repeat (first | apply bn_ | apply bd_ | apply ba_)); refine blk_far ?_ NB227_247.out _; (with_reducible repeat (first | apply bn_ | apply bd_ | apply ba_)); refine blk_far ?_ NB227_247.out _; (with_reducible repeat (first | apply bn_ | apply bd_ | apply ba_)); exact BK227.out⟩
        have n2_ : Aside0 (((((((w91.setCell ⟨gb247, 0, none⟩ (.bool true)).setCell ⟨gb247, 1, none⟩ (.int .i64 t254)).setCell ⟨gb247, 2, none⟩ (.int .i64 t255)).setCell ⟨gb248, 0, none⟩ (.bool true)).setCell ⟨gb248, 1, none⟩ (.int .i64 t260)).setCell ⟨gb248, 2, none⟩ (.int .i64 t261)).heap[gb228]? = some (.cells #[.bool false, .int .i64 0, .int .i64 0] 24 (0, 0))) := ⟨by (with_reducible repeat (first | apply bn_ | apply bd_ | apply ba_)); refine blk_far ?_ NB228_248.out _; (with_reducible repeat (first | apply bn_ | apply bd_ | apply ba_)); refine blk_far ?_ NB228_248.out _; (with_reducible repeat (first | apply bn_ | apply bd_ | apply ba_)); refine blk_far ?_ NB228_248.out _; (with_reducible repeat (first | apply bn_ | apply bd_ | apply ba_)); refine blk_far ?_ NB228_247.out _; (with_reducible repeat (first | apply bn_ | apply bd_ | apply ba_)); refine blk_far ?_ NB228_247.out _; (with_reducible repeat (first | apply bn_ | apply bd_ | apply ba_)); refine blk_far ?_ NB228_247.out _; (with_reducible repeat (first | apply bn_ | apply bd_ | apply ba_)); exact BK228.out⟩
        have n3_ : Aside0 (((((((w91.setCell ⟨gb247, 0, none⟩ (.bool true)).setCell ⟨gb247, 1, none⟩ (.int .i64 t254)).setCell ⟨gb247, 2, none⟩ (.int .i64 t255)).setCell ⟨gb248, 0, none⟩ (.bool true)).setCell ⟨gb248, 1, none⟩ (.int .i64 t260)).setCell ⟨gb248, 2, none⟩ (.int .i64 t261)).heap[gb229]? = some (.cells #[.bool false, .int .i64 0, .int .i64 0] 24 (0, 0))) := ⟨by (with_reducible repeat (first | apply bn_ | apply bd_ | apply ba_)); refine blk_far ?_ NB229_248.out _; (with_reducible repeat (first | apply bn_ | apply bd_ | apply ba_)); refine blk_far ?_ NB229_248.out _; (with_reducible repeat (first | apply bn_ | apply bd_ | apply ba_)); refine blk_far ?_ NB229_248.out _; (with_reducible repeat (first | apply bn_ | apply bd_ | apply ba_)); refine blk_far ?_ NB229_247.out _; (with_reducible repeat (first | apply bn_ | apply bd_ | apply ba_)); refine blk_far ?_ NB229_247.out _; (with_reducible repeat (first | apply bn_ | apply bd_ | apply ba_)); refine blk_far ?_ NB229_247.out _; (with_reducible repeat (first | apply bn_ | apply bd_ | apply ba_)); exact BK229.out⟩
        have n4_ : Aside0 (((((((w91.setCell ⟨gb247, 0, none⟩ (.bool true)).setCell ⟨gb247, 1, none⟩ (.int .i64 t254)).setCell ⟨gb247, 2, none⟩ (.int .i64 t255)).setCell ⟨gb248, 0, none⟩ (.bool true)).setCell ⟨gb248, 1, none⟩ (.int .i64 t260)).setCell ⟨gb248, 2, none⟩ (.int .i64 t261)).heap[gb247]? = some (.cells #[.bool true, .int .i64 t254, .int .i64 t255] 24 (0, 0))) := ⟨by (with_reducible repeat (first | apply bn_ | apply bd_ | apply ba_)); refine blk_far ?_ NB247_248.out _; (with_reducible repeat (first | apply bn_ | apply bd_ | apply ba_)); refine blk_far ?_ NB247_248.out _; (with_reducible repeat (first | apply bn_ | apply bd_ | apply ba_)); refine blk_far ?_ NB247_248.out _; (with_reducible repeat (first | apply bn_ | apply bd_ | apply ba_)); refine blk_put (cs := #[.bool true, .int .i64 t254, .int .i64 t243]) ?_ 2 _ (by first | rfl | (simp [*]; done)); (with_reducible repeat (first | apply bn_ | apply bd_ | apply ba_)); refine blk_put (cs := #[.bool true, .int .i64 t242, .int .i64 t243]) ?_ 1 _ (by first | rfl | (simp [*]; done)); (with_reducible repeat (first | apply bn_ | apply bd_ | apply ba_)); refine blk_put (cs := #[.bool t241, .int .i64 t242, .int .i64 t243]) ?_ 0 _ (by first | rfl | (simp [*]; done)); (with_reducible repeat (first | apply bn_ | apply bd_ | apply ba_)); exact BK247.out⟩
        have n5_ : Aside0 (((((((w91.setCell ⟨gb247, 0, none⟩ (.bool true)).setCell ⟨gb247, 1, none⟩ (.int .i64 t254)).setCell ⟨gb247, 2, none⟩ (.int .i64 t255)).setCell ⟨gb248, 0, none⟩ (.bool true)).setCell ⟨gb248, 1, none⟩ (.int .i64 t260)).setCell ⟨gb248, 2, none⟩ (.int .i64 t261)).heap[gb248]? = some (.cells #[.bool true, .int .i64 t260, .int .i64 t261] 24 (0, 0))) := ⟨by (with_reducible repeat (first | apply bn_ | apply bd_ | apply ba_)); refine blk_put (cs := #[.bool true, .int .i64 t260, .int .i64 t243]) ?_ 2 _ (by first | rfl | (simp [*]; done)); (with_reducible repeat (first | apply bn_ | apply bd_ | apply ba_)); refine blk_put (cs := #[.bool true, .int .i64 t242, .int .i64 t243]) ?_ 1 _ (by first | rfl | (simp [*]; done)); (with_reducible repeat (first | apply bn_ | apply bd_ | apply ba_)); refine blk_put (cs := #[.bool t241, .int .i64 t242, .int .i64 t243]) ?_ 0 _ (by first | rfl | (simp [*]; done)); (with_reducible repeat (first | apply bn_ | apply bd_ | apply ba_)); refine blk_far ?_ NB248_247.out _; (with_reducible repeat (first | apply bn_ | apply bd_ | apply ba_)); refine blk_far ?_ NB248_247.out _; (with_reducible repeat (first | apply bn_ | apply bd_ | apply ba_)); refine blk_far ?_ NB248_247.out _; (with_reducible repeat (first | apply bn_ | apply bd_ | apply ba_)); exact BK248.out⟩
        have n6_ : Aside0 (Below w.heap.size w ((((((w91.setCell ⟨gb247, 0, none⟩ (.bool true)).setCell ⟨gb247, 1, none⟩ (.int .i64 t254)).setCell ⟨gb247, 2, none⟩ (.int .i64 t255)).setCell ⟨gb248, 0, none⟩ (.bool true)).setCell ⟨gb248, 1, none⟩ (.int .i64 t260)).setCell ⟨gb248, 2, none⟩ (.int .i64 t261))) := ⟨by repeat (first | (with_reducible first | exact HB.out | apply b1_ | apply b2_ | apply b3_ | apply c_ GE226 | apply c_ GE227 | apply c_ GE228 | apply c_ GE229 | apply c_ GE247 | apply c_ GE248) | exact HB.out)⟩
        (try clear BK226)
        (try clear BK227)
        (try clear BK228)
        (try clear BK229)
        (try clear BK247)
        (try clear BK248)
        (try clear HB)
        generalize ((((((w91.setCell ⟨gb247, 0, none⟩ (.bool true)).setCell ⟨gb247, 1, none⟩ (.int .i64 t254)).setCell ⟨gb247, 2, none⟩ (.int .i64 t255)).setCell ⟨gb248, 0, none⟩ (.bool true)).setCell ⟨gb248, 1, none⟩ (.int .i64 t260)).setCell ⟨gb248, 2, none⟩ (.int .i64 t261)) = w109 at n0_ n1_ n2_ n3_ n4_ n5_ n6_ ⊢
        have BK226 := n0_
        have BK227 := n1_
        have BK228 := n2_
        have BK229 := n3_
        have BK247 := n4_
        have BK248 := n5_
        have HB := n6_
        clear n0_ n1_ n2_ n3_ n4_ n5_ n6_
        have n0_ := A_ (blk_drew BK226.out)
        have n1_ := A_ (blk_drew BK227.out)
        have n2_ := A_ (blk_drew BK228.out)
        have n3_ := A_ (blk_drew BK229.out)
        have n4_ := A_ (blk_drew BK247.out)
        have n5_ := A_ (blk_drew BK248.out)
        have n6_ := A_ (below_drew1 HB.out)
        clear BK226 BK227
        clear BK228 BK229
        clear BK247 BK248 HB
        have BK226 := n0_
        have BK227 := n1_
        have BK228 := n2_
        have BK229 := n3_
        have BK247 := n4_
        have BK248 := n5_
        have HB := n6_
        clear n0_ n1_ n2_ n3_ n4_ n5_ n6_
        refine start_ (n := 4) (S := fun w' => w'.cell? ⟨gb247, 0, none⟩ = some (.bool true) ∧ w'.cell? ⟨gb247, 1, none⟩ = some (.int .i64 t254) ∧ w'.cell? ⟨gb247, 2, none⟩ = some (.int .i64 t255) ∧ w'.cell? ⟨gb248, 0, none⟩ = some (.bool true) ∧ w'.cell? ⟨gb248, 1, none⟩ = some (.int .i64 t260) ∧ w'.cell? ⟨gb248, 2, none⟩ = some (.int .i64 t261)) (ds := []) #[false, false, false, false] (by kernel_rfl) rfl rfl ⟨bc_ BK247.out 0, bc_ BK247.out 1, bc_ BK247.out 2, bc_ BK248.out 0, bc_ BK248.out 1, bc_ BK248.out 2⟩ (fun hHeld => ?_)
        generalize w109.drew = w110 at BK226 BK227 BK228 BK229 BK247 BK248 HB hHeld ⊢
        refine take_ (i := 0) (N := some 72) (v := ?_) (a' := ?_) #[true, false, false, false] rfl rfl (by kernel_rfl) (fun _ _ _ h => h) (Or.inl ⟨by rfl, ?_⟩) hHeld ?_ ?_
        rotate_left
        ·rintro w' ⟨s0, s1, s2, s3, s4, s5⟩
         go_simp
         with_reducible rfl
        rotate_left
        ·simp only [Act.put, x1_, x2_, x3_, i64_w, i32_w]
         rfl
        refine take_ (i := 1) (N := some 73) (v := ?_) (a' := ?_) #[true, true, false, false] rfl rfl (by kernel_rfl) (fun _ _ _ h => h) (Or.inl ⟨by rfl, ?_⟩) hHeld ?_ ?_
        rotate_left
        ·rintro w' ⟨s0, s1, s2, s3, s4, s5⟩
         go_simp
         with_reducible rfl
        rotate_left
        ·simp only [Act.put, x1_, x2_, x3_, i64_w, i32_w]
         rfl
        refine one_ (i := 2) (N := none) #[true, true, true, false] rfl rfl (by kernel_rfl) (by decide) (fun K hK => ?_)
        have hs111 : w110.cell? ⟨gb228, 0, none⟩ = some (.bool false) := bc_ BK228.out 0
        have hfs111 := blk_frozen BK228.out 0
        have hns111_0 := NB226_228.out
        have hns111_1 := NB227_228.out
        have hns111_3 := NB229_228.out
        have hns111_4 := NB247_228.out
        have hns111_5 := NB248_228.out
        have hms111_0 := NB228_226.out
        have hms111_1 := NB228_227.out
        have hms111_3 := NB228_229.out
        have hms111_4 := NB228_247.out
        have hms111_5 := NB228_248.out
        have hs112 : w110.cell? ⟨gb228, 1, none⟩ = some (.int .i64 0) := bc_ BK228.out 1
        have hfs112 := blk_frozen BK228.out 1
        have hns112_0 := NB226_228.out
        have hns112_1 := NB227_228.out
        have hns112_3 := NB229_228.out
        have hns112_4 := NB247_228.out
        have hns112_5 := NB248_228.out
        have hms112_0 := NB228_226.out
        have hms112_1 := NB228_227.out
        have hms112_3 := NB228_229.out
        have hms112_4 := NB228_247.out
        have hms112_5 := NB228_248.out
        have hs113 : w110.cell? ⟨gb228, 2, none⟩ = some (.int .i64 0) := bc_ BK228.out 2
        have hfs113 := blk_frozen BK228.out 2
        have hns113_0 := NB226_228.out
        have hns113_1 := NB227_228.out
        have hns113_3 := NB229_228.out
        have hns113_4 := NB247_228.out
        have hns113_5 := NB248_228.out
        have hms113_0 := NB228_226.out
        have hms113_1 := NB228_227.out
        have hms113_3 := NB228_229.out
        have hms113_4 := NB228_247.out
        have hms113_5 := NB228_248.out
        refine skip_ (w1 := ?_) (by rfl) rfl ?_ ?_
        rotate_left
        ·go_simp
         rfl
        refine hK.out _ _ ⟨((cell_far (p := ⟨gb228, _, none⟩) NB247_228.out _).trans (((cell_far (p := ⟨gb228, _, none⟩) NB247_228.out _).trans (((cell_far (p := ⟨gb228, _, none⟩) NB247_228.out _).trans (hHeld.1)))))), ((cell_far (p := ⟨gb228, _, none⟩) NB247_228.out _).trans (((cell_far (p := ⟨gb228, _, none⟩) NB247_228.out _).trans (((cell_far (p := ⟨gb228, _, none⟩) NB247_228.out _).trans (hHeld.2.1)))))), ((cell_far (p := ⟨gb228, _, none⟩) NB247_228.out _).trans (((cell_far (p := ⟨gb228, _, none⟩) NB247_228.out _).trans (((cell_far (p := ⟨gb228, _, none⟩) NB247_228.out _).trans (hHeld.2.2.1)))))), ((cell_far (p := ⟨gb228, _, none⟩) NB248_228.out _).trans (((cell_far (p := ⟨gb228, _, none⟩) NB248_228.out _).trans (((cell_far (p := ⟨gb228, _, none⟩) NB248_228.out _).trans (hHeld.2.2.2.1)))))), ((cell_far (p := ⟨gb228, _, none⟩) NB248_228.out _).trans (((cell_far (p := ⟨gb228, _, none⟩) NB248_228.out _).trans (((cell_far (p := ⟨gb228, _, none⟩) NB248_228.out _).trans (hHeld.2.2.2.2.1)))))), ((cell_far (p := ⟨gb228, _, none⟩) NB248_228.out _).trans (((cell_far (p := ⟨gb228, _, none⟩) NB248_228.out _).trans (((cell_far (p := ⟨gb228, _, none⟩) NB248_228.out _).trans (hHeld.2.2.2.2.2))))))⟩ (fun hHeld => ?_)
        clear hK K
        refine one_ (i := 3) (N := none) #[true, true, true, true] rfl rfl (by kernel_rfl) (by decide) (fun K hK => ?_)
        have hs114 : w110.cell? ⟨gb229, 0, none⟩ = some (.bool false) := bc_ BK229.out 0
        have hfs114 := blk_frozen BK229.out 0
        have hns114_0 := NB226_229.out
        have hns114_1 := NB227_229.out
        have hns114_2 := NB228_229.out
        have hns114_4 := NB247_229.out
        have hns114_5 := NB248_229.out
        have hms114_0 := NB229_226.out
        have hms114_1 := NB229_227.out
        have hms114_2 := NB229_228.out
        have hms114_4 := NB229_247.out
        have hms114_5 := NB229_248.out
        have hs115 : w110.cell? ⟨gb229, 1, none⟩ = some (.int .i64 0) := bc_ BK229.out 1
        have hfs115 := blk_frozen BK229.out 1
        have hns115_0 := NB226_229.out
        have hns115_1 := NB227_229.out
        have hns115_2 := NB228_229.out
        have hns115_4 := NB247_229.out
        have hns115_5 := NB248_229.out
        have hms115_0 := NB229_226.out
        have hms115_1 := NB229_227.out
        have hms115_2 := NB229_228.out
        have hms115_4 := NB229_247.out
        have hms115_5 := NB229_248.out
        have hs116 : w110.cell? ⟨gb229, 2, none⟩ = some (.int .i64 0) := bc_ BK229.out 2
        have hfs116 := blk_frozen BK229.out 2
        have hns116_0 := NB226_229.out
        have hns116_1 := NB227_229.out
        have hns116_2 := NB228_229.out
        have hns116_4 := NB247_229.out
        have hns116_5 := NB248_229.out
        have hms116_0 := NB229_226.out
        have hms116_1 := NB229_227.out
        have hms116_2 := NB229_228.out
        have hms116_4 := NB229_247.out
        have hms116_5 := NB229_248.out
        refine skip_ (w1 := ?_) (by rfl) rfl ?_ ?_
        rotate_left
        ·go_simp
         rfl
        refine hK.out _ _ ⟨((cell_far (p := ⟨gb229, _, none⟩) NB247_229.out _).trans (((cell_far (p := ⟨gb229, _, none⟩) NB247_229.out _).trans (((cell_far (p := ⟨gb229, _, none⟩) NB247_229.out _).trans (hHeld.1)))))), ((cell_far (p := ⟨gb229, _, none⟩) NB247_229.out _).trans (((cell_far (p := ⟨gb229, _, none⟩) NB247_229.out _).trans (((cell_far (p := ⟨gb229, _, none⟩) NB247_229.out _).trans (hHeld.2.1)))))), ((cell_far (p := ⟨gb229, _, none⟩) NB247_229.out _).trans (((cell_far (p := ⟨gb229, _, none⟩) NB247_229.out _).trans (((cell_far (p := ⟨gb229, _, none⟩) NB247_229.out _).trans (hHeld.2.2.1)))))), ((cell_far (p := ⟨gb229, _, none⟩) NB248_229.out _).trans (((cell_far (p := ⟨gb229, _, none⟩) NB248_229.out _).trans (((cell_far (p := ⟨gb229, _, none⟩) NB248_229.out _).trans (hHeld.2.2.2.1)))))), ((cell_far (p := ⟨gb229, _, none⟩) NB248_229.out _).trans (((cell_far (p := ⟨gb229, _, none⟩) NB248_229.out _).trans (((cell_far (p := ⟨gb229, _, none⟩) NB248_229.out _).trans (hHeld.2.2.2.2.1)))))), ((cell_far (p := ⟨gb229, _, none⟩) NB248_229.out _).trans (((cell_far (p := ⟨gb229, _, none⟩) NB248_229.out _).trans (((cell_far (p := ⟨gb229, _, none⟩) NB248_229.out _).trans (hHeld.2.2.2.2.2))))))⟩ (fun hHeld => ?_)
        clear hK K
        refine done_ (by kernel_rfl) ?_
        try go_wp2
        refine bodyPost_ret (results_cc rfl _ _ gb228 gb229 24 24 #[.bool true, .int .i64 t254, .int .i64 t255] #[.bool true, .int .i64 t260, .int .i64 t261] (0, 0) (0, 0) _ _ rfl (by (with_reducible repeat (first | apply bn_ | apply bd_ | apply ba_)); refine blk_far ?_ NB228_229.out _; (with_reducible repeat (first | apply bn_ | apply bd_ | apply ba_)); refine blk_far ?_ NB228_229.out _; (with_reducible repeat (first | apply bn_ | apply bd_ | apply ba_)); refine blk_far ?_ NB228_229.out _; (with_reducible repeat (first | apply bn_ | apply bd_ | apply ba_)); refine blk_put (cs := #[.bool true, .int .i64 t254, .int .i64 0]) ?_ 2 _ (by first | rfl | (simp [*]; done)); (with_reducible repeat (first | apply bn_ | apply bd_ | apply ba_)); refine blk_put (cs := #[.bool true, .int .i64 0, .int .i64 0]) ?_ 1 _ (by first | rfl | (simp [*]; done)); (with_reducible repeat (first | apply bn_ | apply bd_ | apply ba_)); refine blk_put (cs := #[.bool false, .int .i64 0, .int .i64 0]) ?_ 0 _ (by first | rfl | (simp [*]; done)); (with_reducible repeat (first | apply bn_ | apply bd_ | apply ba_)); exact BK228.out) Try.underlying24 rfl (by kernel_rfl) rfl (by (with_reducible repeat (first | apply bn_ | apply bd_ | apply ba_)); refine blk_put (cs := #[.bool true, .int .i64 t260, .int .i64 0]) ?_ 2 _ (by first | rfl | (simp [*]; done)); (with_reducible repeat (first | apply bn_ | apply bd_ | apply ba_)); refine blk_put (cs := #[.bool true, .int .i64 0, .int .i64 0]) ?_ 1 _ (by first | rfl | (simp [*]; done)); (with_reducible repeat (first | apply bn_ | apply bd_ | apply ba_)); refine blk_put (cs := #[.bool false, .int .i64 0, .int .i64 0]) ?_ 0 _ (by first | rfl | (simp [*]; done)); (with_reducible repeat (first | apply bn_ | apply bd_ | apply ba_)); refine blk_far ?_ NB229_228.out _; (with_reducible repeat (first | apply bn_ | apply bd_ | apply ba_)); refine blk_far ?_ NB229_228.out _; (with_reducible repeat (first | apply bn_ | apply bd_ | apply ba_)); refine blk_far ?_ NB229_228.out _; (with_reducible repeat (first | apply bn_ | apply bd_ | apply ba_)); exact BK229.out) Try.underlying24 rfl (by kernel_rfl)) rfl ?_
        exact ⟨by first | rfl | (simp [errW_none, errW_some] <;> rfl) | (simp [*, errW_none, errW_some] <;> rfl), by repeat (first | (with_reducible first | exact HB.out | apply b1_ | apply b2_ | apply b3_ | apply c_ GE226 | apply c_ GE227 | apply c_ GE228 | apply c_ GE229 | apply c_ GE247 | apply c_ GE248) | exact HB.out)⟩
       ·replace c72 := Bool.eq_false_iff.mpr c72
        subst c72
        have H1 : (some (false, 0, 0, false, 0, 0)) = some (r1, r2, r3, r4, r5, r6) := by rw [if_neg (show ¬ (false = true) by decide)] at H; exact H
        clear H
        have H := H1
        clear H1
        simp only [Option.some.injEq, Prod.mk.injEq] at H
        obtain ⟨rfl, rfl, rfl, rfl, rfl, rfl⟩ := H
        have hnb142 := NB247_226.out
        have hnc142 := NB226_247.out
        have hnb143 := NB247_227.out
        have hnc143 := NB227_247.out
        have hnb144 := NB247_228.out
        have hnc144 := NB228_247.out
        have hnb145 := NB247_229.out
        have hnc145 := NB229_247.out
        have hnb146 := NB247_248.out
        have hnc146 := NB248_247.out
        have hcz147_0 : w91.cell? ⟨gb247, 0, none⟩ = some (.bool t241) := bc_ BK247.out 0
        have hcz147_1 : w91.cell? ⟨gb247, 1, none⟩ = some (.int .i64 t242) := bc_ BK247.out 1
        have hcz147_2 : w91.cell? ⟨gb247, 2, none⟩ = some (.int .i64 t243) := bc_ BK247.out 2
        have hfz147_0 := blk_frozen BK247.out 0
        have hfz147_1 := blk_frozen BK247.out 1
        have hfz147_2 := blk_frozen BK247.out 2
        have hnb148 := NB248_226.out
        have hnc148 := NB226_248.out
        have hnb149 := NB248_227.out
        have hnc149 := NB227_248.out
        have hnb150 := NB248_228.out
        have hnc150 := NB228_248.out
        have hnb151 := NB248_229.out
        have hnc151 := NB229_248.out
        have hcz152_0 : w91.cell? ⟨gb248, 0, none⟩ = some (.bool t241) := bc_ BK248.out 0
        have hcz152_1 : w91.cell? ⟨gb248, 1, none⟩ = some (.int .i64 t242) := bc_ BK248.out 1
        have hcz152_2 : w91.cell? ⟨gb248, 2, none⟩ = some (.int .i64 t243) := bc_ BK248.out 2
        have hfz152_0 := blk_frozen BK248.out 0
        have hfz152_1 := blk_frozen BK248.out 1
        have hfz152_2 := blk_frozen BK248.out 2
        have hnb153 := NB228_226.out
        have hnc153 := NB226_228.out
        have hnb154 := NB228_227.out
        have hnc154 := NB227_228.out
        have hnb155 := NB228_229.out
        have hnc155 := NB229_228.out
        have hcz156_0 : w91.cell? ⟨gb228, 0, none⟩ = some (.bool false) := bc_ BK228.out 0
        have hcz156_1 : w91.cell? ⟨gb228, 1, none⟩ = some (.int .i64 0) := bc_ BK228.out 1
        have hcz156_2 : w91.cell? ⟨gb228, 2, none⟩ = some (.int .i64 0) := bc_ BK228.out 2
        have hfz156_0 := blk_frozen BK228.out 0
        have hfz156_1 := blk_frozen BK228.out 1
        have hfz156_2 := blk_frozen BK228.out 2
        have hnb157 := NB229_226.out
        have hnc157 := NB226_229.out
        have hnb158 := NB229_227.out
        have hnc158 := NB227_229.out
        have hcz159_0 : w91.cell? ⟨gb229, 0, none⟩ = some (.bool false) := bc_ BK229.out 0
        have hcz159_1 : w91.cell? ⟨gb229, 1, none⟩ = some (.int .i64 0) := bc_ BK229.out 1
        have hcz159_2 : w91.cell? ⟨gb229, 2, none⟩ = some (.int .i64 0) := bc_ BK229.out 2
        have hfz159_0 := blk_frozen BK229.out 0
        have hfz159_1 := blk_frozen BK229.out 1
        have hfz159_2 := blk_frozen BK229.out 2
        try go_wp2
        refine bodyPost_ret (results_cc rfl _ _ gb228 gb229 24 24 #[.bool false, .int .i64 0, .int .i64 0] #[.bool false, .int .i64 0, .int .i64 0] (0, 0) (0, 0) _ _ rfl (by (with_reducible repeat (first | apply bn_ | apply bd_ | apply ba_)); refine blk_far ?_ NB228_229.out _; (with_reducible repeat (first | apply bn_ | apply bd_ | apply ba_)); refine blk_far ?_ NB228_229.out _; (with_reducible repeat (first | apply bn_ | apply bd_ | apply ba_)); refine blk_far ?_ NB228_229.out _; (with_reducible repeat (first | apply bn_ | apply bd_ | apply ba_)); refine blk_put (cs := #[.bool false, .int .i64 0, .int .i64 0]) ?_ 2 _ (by first | rfl | (simp [*]; done)); (with_reducible repeat (first | apply bn_ | apply bd_ | apply ba_)); refine blk_put (cs := #[.bool false, .int .i64 0, .int .i64 0]) ?_ 1 _ (by first | rfl | (simp [*]; done)); (with_reducible repeat (first | apply bn_ | apply bd_ | apply ba_)); refine blk_put (cs := #[.bool false, .int .i64 0, .int .i64 0]) ?_ 0 _ (by first | rfl | (simp [*]; done)); (with_reducible repeat (first | apply bn_ | apply bd_ | apply ba_)); refine blk_far ?_ NB228_248.out _; (with_reducible repeat (first | apply bn_ | apply bd_ | apply ba_)); refine blk_far ?_ NB228_248.out _; (with_reducible repeat (first | apply bn_ | apply bd_ | apply ba_)); refine blk_far ?_ NB228_248.out _; (with_reducible repeat (first | apply bn_ | apply bd_ | apply ba_)); refine blk_far ?_ NB228_247.out _; (with_reducible repeat (first | apply bn_ | apply bd_ | apply ba_)); refine blk_far ?_ NB228_247.out _; (with_reducible repeat (first | apply bn_ | apply bd_ | apply ba_)); refine blk_far ?_ NB228_247.out _; (with_reducible repeat (first | apply bn_ | apply bd_ | apply ba_)); exact BK228.out) Try.underlying24 rfl (by kernel_rfl) rfl (by (with_reducible repeat (first | apply bn_ | apply bd_ | apply ba_)); refine blk_put (cs := #[.bool false, .int .i64 0, .int .i64 0]) ?_ 2 _ (by first | rfl | (simp [*]; done)); (with_reducible repeat (first | apply bn_ | apply bd_ | apply ba_)); refine blk_put (cs := #[.bool false, .int .i64 0, .int .i64 0]) ?_ 1 _ (by first | rfl | (simp [*]; done)); (with_reducible repeat (first | apply bn_ | apply bd_ | apply ba_)); refine blk_put (cs := #[.bool false, .int .i64 0, .int .i64 0]) ?_ 0 _ (by first | rfl | (simp [*]; done)); (with_reducible repeat (first | apply bn_ | apply bd_ | apply ba_)); refine blk_far ?_ NB229_228.out _; (with_reducible repeat (first | apply bn_ | apply bd_ | apply ba_)); refine blk_far ?_ NB229_228.out _; (with_reducible repeat (first | apply bn_ | apply bd_ | apply ba_)); refine blk_far ?_ NB229_228.out _; (with_reducible repeat (first | apply bn_ | apply bd_ | apply ba_)); refine blk_far ?_ NB229_248.out _; (with_reducible repeat (first | apply bn_ | apply bd_ | apply ba_)); refine blk_far ?_ NB229_248.out _; (with_reducible repeat (first | apply bn_ | apply bd_ | apply ba_)); refine blk_far ?_ NB229_248.out _; (with_reducible repeat (first | apply bn_ | apply bd_ | apply ba_)); refine blk_far ?_ NB229_247.out _; (with_reducible repeat (first | apply bn_ | apply bd_ | apply ba_)); refine blk_far ?_ NB229_247.out _; (with_reducible repeat (first | apply bn_ | apply bd_ | apply ba_)); refine blk_far ?_ NB229_247.out _; (with_reducible repeat (first | apply bn_ | apply bd_ | apply ba_)); exact BK229.out) Try.underlying24 rfl (by kernel_rfl)) rfl ?_
        exact ⟨by first | rfl | (simp [errW_none, errW_some] <;> rfl) | (simp [*, errW_none, errW_some] <;> rfl), by repeat (first | (with_reducible first | exact HB.out | apply b1_ | apply b2_ | apply b3_ | apply c_ GE226 | apply c_ GE227 | apply c_ GE228 | apply c_ GE229 | apply c_ GE247 | apply c_ GE248) | exact HB.out)⟩
      ·replace c71 := Bool.eq_false_iff.mpr c71
       subst c71
       have H1 : (some (false, 0, 0, false, 0, 0)) = some (r1, r2, r3, r4, r5, r6) := by rw [if_neg (show ¬ (false = true) by decide)] at H; exact H
       clear H
       have H := H1
       clear H1
       simp only [Option.some.injEq, Prod.mk.injEq] at H
       obtain ⟨rfl, rfl, rfl, rfl, rfl, rfl⟩ := H
       have hnb185 := NB247_226.out
       have hnc185 := NB226_247.out
       have hnb186 := NB247_227.out
       have hnc186 := NB227_247.out
       have hnb187 := NB247_228.out
       have hnc187 := NB228_247.out
       have hnb188 := NB247_229.out
       have hnc188 := NB229_247.out
       have hnb189 := NB247_248.out
       have hnc189 := NB248_247.out
       have hcz190_0 : w91.cell? ⟨gb247, 0, none⟩ = some (.bool t241) := bc_ BK247.out 0
       have hcz190_1 : w91.cell? ⟨gb247, 1, none⟩ = some (.int .i64 t242) := bc_ BK247.out 1
       have hcz190_2 : w91.cell? ⟨gb247, 2, none⟩ = some (.int .i64 t243) := bc_ BK247.out 2
       have hfz190_0 := blk_frozen BK247.out 0
       have hfz190_1 := blk_frozen BK247.out 1
       have hfz190_2 := blk_frozen BK247.out 2
       have hnb191 := NB228_226.out
       have hnc191 := NB226_228.out
       have hnb192 := NB228_227.out
       have hnc192 := NB227_228.out
       have hnb193 := NB228_229.out
       have hnc193 := NB229_228.out
       have hnb194 := NB228_248.out
       have hnc194 := NB248_228.out
       have hcz195_0 : w91.cell? ⟨gb228, 0, none⟩ = some (.bool false) := bc_ BK228.out 0
       have hcz195_1 : w91.cell? ⟨gb228, 1, none⟩ = some (.int .i64 0) := bc_ BK228.out 1
       have hcz195_2 : w91.cell? ⟨gb228, 2, none⟩ = some (.int .i64 0) := bc_ BK228.out 2
       have hfz195_0 := blk_frozen BK228.out 0
       have hfz195_1 := blk_frozen BK228.out 1
       have hfz195_2 := blk_frozen BK228.out 2
       have hnb196 := NB229_226.out
       have hnc196 := NB226_229.out
       have hnb197 := NB229_227.out
       have hnc197 := NB227_229.out
       have hnb198 := NB229_248.out
       have hnc198 := NB248_229.out
       have hcz199_0 : w91.cell? ⟨gb229, 0, none⟩ = some (.bool false) := bc_ BK229.out 0
       have hcz199_1 : w91.cell? ⟨gb229, 1, none⟩ = some (.int .i64 0) := bc_ BK229.out 1
       have hcz199_2 : w91.cell? ⟨gb229, 2, none⟩ = some (.int .i64 0) := bc_ BK229.out 2
       have hfz199_0 := blk_frozen BK229.out 0
       have hfz199_1 := blk_frozen BK229.out 1
       have hfz199_2 := blk_frozen BK229.out 2
       try go_wp2
       refine bodyPost_ret (results_cc rfl _ _ gb228 gb229 24 24 #[.bool false, .int .i64 0, .int .i64 0] #[.bool false, .int .i64 0, .int .i64 0] (0, 0) (0, 0) _ _ rfl (by (with_reducible repeat (first | apply bn_ | apply bd_ | apply ba_)); refine blk_far ?_ NB228_229.out _; (with_reducible repeat (first | apply bn_ | apply bd_ | apply ba_)); refine blk_far ?_ NB228_229.out _; (with_reducible repeat (first | apply bn_ | apply bd_ | apply ba_)); refine blk_far ?_ NB228_229.out _; (with_reducible repeat (first | apply bn_ | apply bd_ | apply ba_)); refine blk_put (cs := #[.bool false, .int .i64 0, .int .i64 0]) ?_ 2 _ (by first | rfl | (simp [*]; done)); (with_reducible repeat (first | apply bn_ | apply bd_ | apply ba_)); refine blk_put (cs := #[.bool false, .int .i64 0, .int .i64 0]) ?_ 1 _ (by first | rfl | (simp [*]; done)); (with_reducible repeat (first | apply bn_ | apply bd_ | apply ba_)); refine blk_put (cs := #[.bool false, .int .i64 0, .int .i64 0]) ?_ 0 _ (by first | rfl | (simp [*]; done)); (with_reducible repeat (first | apply bn_ | apply bd_ | apply ba_)); refine blk_far ?_ NB228_248.out _; (with_reducible repeat (first | apply bn_ | apply bd_ | apply ba_)); refine blk_far ?_ NB228_248.out _; (with_reducible repeat (first | apply bn_ | apply bd_ | apply ba_)); refine blk_far ?_ NB228_248.out _; (with_reducible repeat (first | apply bn_ | apply bd_ | apply ba_)); refine blk_far ?_ NB228_247.out _; (with_reducible repeat (first | apply bn_ | apply bd_ | apply ba_)); refine blk_far ?_ NB228_247.out _; (with_reducible repeat (first | apply bn_ | apply bd_ | apply ba_)); refine blk_far ?_ NB228_247.out _; (with_reducible repeat (first | apply bn_ | apply bd_ | apply ba_)); exact BK228.out) Try.underlying24 rfl (by kernel_rfl) rfl (by (with_reducible repeat (first | apply bn_ | apply bd_ | apply ba_)); refine blk_put (cs := #[.bool false, .int .i64 0, .int .i64 0]) ?_ 2 _ (by first | rfl | (simp [*]; done)); (with_reducible repeat (first | apply bn_ | apply bd_ | apply ba_)); refine blk_put (cs := #[.bool false, .int .i64 0, .int .i64 0]) ?_ 1 _ (by first | rfl | (simp [*]; done)); (with_reducible repeat (first | apply bn_ | apply bd_ | apply ba_)); refine blk_put (cs := #[.bool false, .int .i64 0, .int .i64 0]) ?_ 0 _ (by first | rfl | (simp [*]; done)); (with_reducible repeat (first | apply bn_ | apply bd_ | apply ba_)); refine blk_far ?_ NB229_228.out _; (with_reducible repeat (first | apply bn_ | apply bd_ | apply ba_)); refine blk_far ?_ NB229_228.out _; (with_reducible repeat (first | apply bn_ | apply bd_ | apply ba_)); refine blk_far ?_ NB229_228.out _; (with_reducible repeat (first | apply bn_ | apply bd_ | apply ba_)); refine blk_far ?_ NB229_248.out _; (with_reducible repeat (first | apply bn_ | apply bd_ | apply ba_)); refine blk_far ?_ NB229_248.out _; (with_reducible repeat (first | apply bn_ | apply bd_ | apply ba_)); refine blk_far ?_ NB229_248.out _; (with_reducible repeat (first | apply bn_ | apply bd_ | apply ba_)); refine blk_far ?_ NB229_247.out _; (with_reducible repeat (first | apply bn_ | apply bd_ | apply ba_)); refine blk_far ?_ NB229_247.out _; (with_reducible repeat (first | apply bn_ | apply bd_ | apply ba_)); refine blk_far ?_ NB229_247.out _; (with_reducible repeat (first | apply bn_ | apply bd_ | apply ba_)); exact BK229.out) Try.underlying24 rfl (by kernel_rfl)) rfl ?_
       exact ⟨by first | rfl | (simp [errW_none, errW_some] <;> rfl) | (simp [*, errW_none, errW_some] <;> rfl), by repeat (first | (with_reducible first | exact HB.out | apply b1_ | apply b2_ | apply b3_ | apply c_ GE226 | apply c_ GE227 | apply c_ GE228 | apply c_ GE229 | apply c_ GE247 | apply c_ GE248) | exact HB.out)⟩
     ·rw [if_neg c65] at H
      have c65b0 : (a1 == 1) = false := beq_eq_false_iff_ne.mpr c65
      have c65b1 : (a1 != 1) = true := bne_iff_ne.mpr c65
      by_cases c200 : t241 = true
      ·subst c200
       have H1 : (some (true, t242, t243, true, t242, t243)) = some (r1, r2, r3, r4, r5, r6) := by rw [if_pos rfl, if_pos rfl] at H; exact H
       clear H
       have H := H1
       clear H1
       simp only [Option.some.injEq, Prod.mk.injEq] at H
       obtain ⟨rfl, rfl, rfl, rfl, rfl, rfl⟩ := H
       have hnb214 := NB247_226.out
       have hnc214 := NB226_247.out
       have hnb215 := NB247_227.out
       have hnc215 := NB227_247.out
       have hnb216 := NB247_228.out
       have hnc216 := NB228_247.out
       have hnb217 := NB247_229.out
       have hnc217 := NB229_247.out
       have hnb218 := NB247_248.out
       have hnc218 := NB248_247.out
       have hcz219_0 : w78.cell? ⟨gb247, 0, none⟩ = some (.bool false) := bc_ BK247.out 0
       have hcz219_1 : w78.cell? ⟨gb247, 1, none⟩ = some (.int .i64 0) := bc_ BK247.out 1
       have hcz219_2 : w78.cell? ⟨gb247, 2, none⟩ = some (.int .i64 0) := bc_ BK247.out 2
       have hfz219_0 := blk_frozen BK247.out 0
       have hfz219_1 := blk_frozen BK247.out 1
       have hfz219_2 := blk_frozen BK247.out 2
       have hnb220 := NB248_226.out
       have hnc220 := NB226_248.out
       have hnb221 := NB248_227.out
       have hnc221 := NB227_248.out
       have hnb222 := NB248_228.out
       have hnc222 := NB228_248.out
       have hnb223 := NB248_229.out
       have hnc223 := NB229_248.out
       have hcz224_0 : w78.cell? ⟨gb248, 0, none⟩ = some (.bool false) := bc_ BK248.out 0
       have hcz224_1 : w78.cell? ⟨gb248, 1, none⟩ = some (.int .i64 0) := bc_ BK248.out 1
       have hcz224_2 : w78.cell? ⟨gb248, 2, none⟩ = some (.int .i64 0) := bc_ BK248.out 2
       have hfz224_0 := blk_frozen BK248.out 0
       have hfz224_1 := blk_frozen BK248.out 1
       have hfz224_2 := blk_frozen BK248.out 2
       try go_wp2
       have n0_ : Aside0 (((((((w78.setCell ⟨gb247, 0, none⟩ (.bool true)).setCell ⟨gb247, 1, none⟩ (.int .i64 t242)).setCell ⟨gb247, 2, none⟩ (.int .i64 t243)).setCell ⟨gb248, 0, none⟩ (.bool true)).setCell ⟨gb248, 1, none⟩ (.int .i64 t242)).setCell ⟨gb248, 2, none⟩ (.int .i64 t243)).heap[gb226]? = some (.cells #[.bool a2_0, .int .i64 a2_1, .int .i64 a2_2] 24 (0, 0))) := ⟨by (with_reducible repeat (first | apply bn_ | apply bd_ | apply ba_)); refine blk_far ?_ NB226_248.out _; (with_reducible repeat (first | apply bn_ | apply bd_ | apply ba_)); refine blk_far ?_ NB226_248.out _; (with_reducible repeat (first | apply bn_ | apply bd_ | apply ba_)); refine blk_far ?_ NB226_248.out _; (with_reducible repeat (first | apply bn_ | apply bd_ | apply ba_)); refine blk_far ?_ NB226_247.out _; (with_reducible repeat (first | apply bn_ | apply bd_ | apply ba_)); refine blk_far ?_ NB226_247.out _; (with_reducible repeat (first | apply bn_ | apply bd_ | apply ba_)); refine blk_far ?_ NB226_247.out _; (with_reducible repeat (first | apply bn_ | apply bd_ | apply ba_)); exact BK226.out⟩
       have n1_ : Aside0 (((((((w78.setCell ⟨gb247, 0, none⟩ (.bool true)).setCell ⟨gb247, 1, none⟩ (.int .i64 t242)).setCell ⟨gb247, 2, none⟩ (.int .i64 t243)).setCell ⟨gb248, 0, none⟩ (.bool true)).setCell ⟨gb248, 1, none⟩ (.int .i64 t242)).setCell ⟨gb248, 2, none⟩ (.int .i64 t243)).heap[gb227]? = some (.cells #[.bool a3_0, .int .i64 a3_1, .int .i64 a3_2] 24 (0, 0))) := ⟨by (with_reducible repeat (first | apply bn_ | apply bd_ | apply ba_)); refine blk_far ?_ NB227_248.out _; (with_reducible repeat (first | apply bn_ | apply bd_ | apply ba_)); refine blk_far ?_ NB227_248.out _; (with_reducible repeat (first | apply bn_ | apply bd_ | apply ba_)); refine blk_far ?_ NB227_248.out _; (with_reducible repeat (first | apply bn_ | apply bd_ | apply ba_)); refine blk_far ?_ NB227_247.out _; (with_reducible repeat (first | apply bn_ | apply bd_ | apply ba_)); refine blk_far ?_ NB227_247.out _; (with_reducible repeat (first | apply bn_ | apply bd_ | apply ba_)); refine blk_far ?_ NB227_247.out _; (with_reducible repeat (first | apply bn_ | apply bd_ | apply ba_)); exact BK227.out⟩
       have n2_ : Aside0 (((((((w78.setCell ⟨gb247, 0, none⟩ (.bool true)).setCell ⟨gb247, 1, none⟩ (.int .i64 t242)).setCell ⟨gb247, 2, none⟩ (.int .i64 t243)).setCell ⟨gb248, 0, none⟩ (.bool true)).setCell ⟨gb248, 1, none⟩ (.int .i64 t242)).setCell ⟨gb248, 2, none⟩ (.int .i64 t243)).heap[gb228]? = some (.cells #[.bool false, .int .i64 0, .int .i64 0] 24 (0, 0))) := ⟨by (with_reducible repeat (first | apply bn_ | apply bd_ | apply ba_)); refine blk_far ?_ NB228_248.out _; (with_reducible repeat (first | apply bn_ | apply bd_ | apply ba_)); refine blk_far ?_ NB228_248.out _; (with_reducible repeat (first | apply bn_ | apply bd_ | apply ba_)); refine blk_far ?_ NB228_248.out _; (with_reducible repeat (first | apply bn_ | apply bd_ | apply ba_)); refine blk_far ?_ NB228_247.out _; (with_reducible repeat (first | apply bn_ | apply bd_ | apply ba_)); refine blk_far ?_ NB228_247.out _; (with_reducible repeat (first | apply bn_ | apply bd_ | apply ba_)); refine blk_far ?_ NB228_247.out _; (with_reducible repeat (first | apply bn_ | apply bd_ | apply ba_)); exact BK228.out⟩
       have n3_ : Aside0 (((((((w78.setCell ⟨gb247, 0, none⟩ (.bool true)).setCell ⟨gb247, 1, none⟩ (.int .i64 t242)).setCell ⟨gb247, 2, none⟩ (.int .i64 t243)).setCell ⟨gb248, 0, none⟩ (.bool true)).setCell ⟨gb248, 1, none⟩ (.int .i64 t242)).setCell ⟨gb248, 2, none⟩ (.int .i64 t243)).heap[gb229]? = some (.cells #[.bool false, .int .i64 0, .int .i64 0] 24 (0, 0))) := ⟨by (with_reducible repeat (first | apply bn_ | apply bd_ | apply ba_)); refine blk_far ?_ NB229_248.out _; (with_reducible repeat (first | apply bn_ | apply bd_ | apply ba_)); refine blk_far ?_ NB229_248.out _; (with_reducible repeat (first | apply bn_ | apply bd_ | apply ba_)); refine blk_far ?_ NB229_248.out _; (with_reducible repeat (first | apply bn_ | apply bd_ | apply ba_)); refine blk_far ?_ NB229_247.out _; (with_reducible repeat (first | apply bn_ | apply bd_ | apply ba_)); refine blk_far ?_ NB229_247.out _; (with_reducible repeat (first | apply bn_ | apply bd_ | apply ba_)); refine blk_far ?_ NB229_247.out _; (with_reducible repeat (first | apply bn_ | apply bd_ | apply ba_)); exact BK229.out⟩
       have n4_ : Aside0 (((((((w78.setCell ⟨gb247, 0, none⟩ (.bool true)).setCell ⟨gb247, 1, none⟩ (.int .i64 t242)).setCell ⟨gb247, 2, none⟩ (.int .i64 t243)).setCell ⟨gb248, 0, none⟩ (.bool true)).setCell ⟨gb248, 1, none⟩ (.int .i64 t242)).setCell ⟨gb248, 2, none⟩ (.int .i64 t243)).heap[gb247]? = some (.cells #[.bool true, .int .i64 t242, .int .i64 t243] 24 (0, 0))) := ⟨by (with_reducible repeat (first | apply bn_ | apply bd_ | apply ba_)); refine blk_far ?_ NB247_248.out _; (with_reducible repeat (first | apply bn_ | apply bd_ | apply ba_)); refine blk_far ?_ NB247_248.out _; (with_reducible repeat (first | apply bn_ | apply bd_ | apply ba_)); refine blk_far ?_ NB247_248.out _; (with_reducible repeat (first | apply bn_ | apply bd_ | apply ba_)); refine blk_put (cs := #[.bool true, .int .i64 t242, .int .i64 0]) ?_ 2 _ (by first | rfl | (simp [*]; done)); (with_reducible repeat (first | apply bn_ | apply bd_ | apply ba_)); refine blk_put (cs := #[.bool true, .int .i64 0, .int .i64 0]) ?_ 1 _ (by first | rfl | (simp [*]; done)); (with_reducible repeat (first | apply bn_ | apply bd_ | apply ba_)); refine blk_put (cs := #[.bool false, .int .i64 0, .int .i64 0]) ?_ 0 _ (by first | rfl | (simp [*]; done)); (with_reducible repeat (first | apply bn_ | apply bd_ | apply ba_)); exact BK247.out⟩
       have n5_ : Aside0 (((((((w78.setCell ⟨gb247, 0, none⟩ (.bool true)).setCell ⟨gb247, 1, none⟩ (.int .i64 t242)).setCell ⟨gb247, 2, none⟩ (.int .i64 t243)).setCell ⟨gb248, 0, none⟩ (.bool true)).setCell ⟨gb248, 1, none⟩ (.int .i64 t242)).setCell ⟨gb248, 2, none⟩ (.int .i64 t243)).heap[gb248]? = some (.cells #[.bool true, .int .i64 t242, .int .i64 t243] 24 (0, 0))) := ⟨by (with_reducible repeat (first | apply bn_ | apply bd_ | apply ba_)); refine blk_put (cs := #[.bool true, .int .i64 t242, .int .i64 0]) ?_ 2 _ (by first | rfl | (simp [*]; done)); (with_reducible repeat (first | apply bn_ | apply bd_ | apply ba_)); refine blk_put (cs := #[.bool true, .int .i64 0, .int .i64 0]) ?_ 1 _ (by first | rfl | (simp [*]; done)); (with_reducible repeat (first | apply bn_ | apply bd_ | apply ba_)); refine blk_put (cs := #[.bool false, .int .i64 0, .int .i64 0]) ?_ 0 _ (by first | rfl | (simp [*]; done)); (with_reducible repeat (first | apply bn_ | apply bd_ | apply ba_)); refine blk_far ?_ NB248_247.out _; (with_reducible repeat (first | apply bn_ | apply bd_ | apply ba_)); refine blk_far ?_ NB248_247.out _; (with_reducible repeat (first | apply bn_ | apply bd_ | apply ba_)); refine blk_far ?_ NB248_247.out _; (with_reducible repeat (first | apply bn_ | apply bd_ | apply ba_)); exact BK248.out⟩
       have n6_ : Aside0 (Below w.heap.size w ((((((w78.setCell ⟨gb247, 0, none⟩ (.bool true)).setCell ⟨gb247, 1, none⟩ (.int .i64 t242)).setCell ⟨gb247, 2, none⟩ (.int .i64 t243)).setCell ⟨gb248, 0, none⟩ (.bool true)).setCell ⟨gb248, 1, none⟩ (.int .i64 t242)).setCell ⟨gb248, 2, none⟩ (.int .i64 t243))) := ⟨by repeat (first | (with_reducible first | exact HB.out | apply b1_ | apply b2_ | apply b3_ | apply c_ GE226 | apply c_ GE227 | apply c_ GE228 | apply c_ GE229 | apply c_ GE247 | apply c_ GE248) | exact HB.out)⟩
       (try clear BK226)
       (try clear BK227)
       (try clear BK228)
       (try clear BK229)
       (try clear BK247)
       (try clear BK248)
       (try clear HB)
       generalize ((((((w78.setCell ⟨gb247, 0, none⟩ (.bool true)).setCell ⟨gb247, 1, none⟩ (.int .i64 t242)).setCell ⟨gb247, 2, none⟩ (.int .i64 t243)).setCell ⟨gb248, 0, none⟩ (.bool true)).setCell ⟨gb248, 1, none⟩ (.int .i64 t242)).setCell ⟨gb248, 2, none⟩ (.int .i64 t243)) = w225 at n0_ n1_ n2_ n3_ n4_ n5_ n6_ ⊢
       have BK226 := n0_
       have BK227 := n1_
       have BK228 := n2_
       have BK229 := n3_
       have BK247 := n4_
       have BK248 := n5_
       have HB := n6_
       clear n0_ n1_ n2_ n3_ n4_ n5_ n6_
       have n0_ := A_ (blk_drew BK226.out)
       have n1_ := A_ (blk_drew BK227.out)
       have n2_ := A_ (blk_drew BK228.out)
       have n3_ := A_ (blk_drew BK229.out)
       have n4_ := A_ (blk_drew BK247.out)
       have n5_ := A_ (blk_drew BK248.out)
       have n6_ := A_ (below_drew1 HB.out)
       clear BK226 BK227
       clear BK228 BK229
       clear BK247 BK248 HB
       have BK226 := n0_
       have BK227 := n1_
       have BK228 := n2_
       have BK229 := n3_
       have BK247 := n4_
       have BK248 := n5_
       have HB := n6_
       clear n0_ n1_ n2_ n3_ n4_ n5_ n6_
       refine start_ (n := 4) (S := fun w' => w'.cell? ⟨gb247, 0, none⟩ = some (.bool true) ∧ w'.cell? ⟨gb247, 1, none⟩ = some (.int .i64 t242) ∧ w'.cell? ⟨gb247, 2, none⟩ = some (.int .i64 t243) ∧ w'.cell? ⟨gb248, 0, none⟩ = some (.bool true) ∧ w'.cell? ⟨gb248, 1, none⟩ = some (.int .i64 t242) ∧ w'.cell? ⟨gb248, 2, none⟩ = some (.int .i64 t243)) (ds := []) #[false, false, false, false] (by kernel_rfl) rfl rfl ⟨bc_ BK247.out 0, bc_ BK247.out 1, bc_ BK247.out 2, bc_ BK248.out 0, bc_ BK248.out 1, bc_ BK248.out 2⟩ (fun hHeld => ?_)
       generalize w225.drew = w226 at BK226 BK227 BK228 BK229 BK247 BK248 HB hHeld ⊢
       refine take_ (i := 0) (N := some 72) (v := ?_) (a' := ?_) #[true, false, false, false] rfl rfl (by kernel_rfl) (fun _ _ _ h => h) (Or.inl ⟨by rfl, ?_⟩) hHeld ?_ ?_
       rotate_left
       ·rintro w' ⟨s0, s1, s2, s3, s4, s5⟩
        go_simp
        with_reducible rfl
       rotate_left
       ·simp only [Act.put, x1_, x2_, x3_, i64_w, i32_w]
        rfl
       refine take_ (i := 1) (N := some 73) (v := ?_) (a' := ?_) #[true, true, false, false] rfl rfl (by kernel_rfl) (fun _ _ _ h => h) (Or.inl ⟨by rfl, ?_⟩) hHeld ?_ ?_
       rotate_left
       ·rintro w' ⟨s0, s1, s2, s3, s4, s5⟩
        go_simp
        with_reducible rfl
       rotate_left
       ·simp only [Act.put, x1_, x2_, x3_, i64_w, i32_w]
        rfl
       refine one_ (i := 2) (N := none) #[true, true, true, false] rfl rfl (by kernel_rfl) (by decide) (fun K hK => ?_)
       have hs227 : w226.cell? ⟨gb228, 0, none⟩ = some (.bool false) := bc_ BK228.out 0
       have hfs227 := blk_frozen BK228.out 0
       have hns227_0 := NB226_228.out
       have hns227_1 := NB227_228.out
       have hns227_3 := NB229_228.out
       have hns227_4 := NB247_228.out
       have hns227_5 := NB248_228.out
       have hms227_0 := NB228_226.out
       have hms227_1 := NB228_227.out
       have hms227_3 := NB228_229.out
       have hms227_4 := NB228_247.out
       have hms227_5 := NB228_248.out
       have hs228 : w226.cell? ⟨gb228, 1, none⟩ = some (.int .i64 0) := bc_ BK228.out 1
       have hfs228 := blk_frozen BK228.out 1
       have hns228_0 := NB226_228.out
       have hns228_1 := NB227_228.out
       have hns228_3 := NB229_228.out
       have hns228_4 := NB247_228.out
       have hns228_5 := NB248_228.out
       have hms228_0 := NB228_226.out
       have hms228_1 := NB228_227.out
       have hms228_3 := NB228_229.out
       have hms228_4 := NB228_247.out
       have hms228_5 := NB228_248.out
       have hs229 : w226.cell? ⟨gb228, 2, none⟩ = some (.int .i64 0) := bc_ BK228.out 2
       have hfs229 := blk_frozen BK228.out 2
       have hns229_0 := NB226_228.out
       have hns229_1 := NB227_228.out
       have hns229_3 := NB229_228.out
       have hns229_4 := NB247_228.out
       have hns229_5 := NB248_228.out
       have hms229_0 := NB228_226.out
       have hms229_1 := NB228_227.out
       have hms229_3 := NB228_229.out
       have hms229_4 := NB228_247.out
       have hms229_5 := NB228_248.out
       refine skip_ (w1 := ?_) (by rfl) rfl ?_ ?_
       rotate_left
       ·go_simp
        rfl
       refine hK.out _ _ ⟨((cell_far (p := ⟨gb228, _, none⟩) NB247_228.out _).trans (((cell_far (p := ⟨gb228, _, none⟩) NB247_228.out _).trans (((cell_far (p := ⟨gb228, _, none⟩) NB247_228.out _).trans (hHeld.1)))))), ((cell_far (p := ⟨gb228, _, none⟩) NB247_228.out _).trans (((cell_far (p := ⟨gb228, _, none⟩) NB247_228.out _).trans (((cell_far (p := ⟨gb228, _, none⟩) NB247_228.out _).trans (hHeld.2.1)))))), ((cell_far (p := ⟨gb228, _, none⟩) NB247_228.out _).trans (((cell_far (p := ⟨gb228, _, none⟩) NB247_228.out _).trans (((cell_far (p := ⟨gb228, _, none⟩) NB247_228.out _).trans (hHeld.2.2.1)))))), ((cell_far (p := ⟨gb228, _, none⟩) NB248_228.out _).trans (((cell_far (p := ⟨gb228, _, none⟩) NB248_228.out _).trans (((cell_far (p := ⟨gb228, _, none⟩) NB248_228.out _).trans (hHeld.2.2.2.1)))))), ((cell_far (p := ⟨gb228, _, none⟩) NB248_228.out _).trans (((cell_far (p := ⟨gb228, _, none⟩) NB248_228.out _).trans (((cell_far (p := ⟨gb228, _, none⟩) NB248_228.out _).trans (hHeld.2.2.2.2.1)))))), ((cell_far (p := ⟨gb228, _, none⟩) NB248_228.out _).trans (((cell_far (p := ⟨gb228, _, none⟩) NB248_228.out _).trans (((cell_far (p := ⟨gb228, _, none⟩) NB248_228.out _).trans (hHeld.2.2.2.2.2))))))⟩ (fun hHeld => ?_)
       clear hK K
       refine one_ (i := 3) (N := none) #[true, true, true, true] rfl rfl (by kernel_rfl) (by decide) (fun K hK => ?_)
       have hs230 : w226.cell? ⟨gb229, 0, none⟩ = some (.bool false) := bc_ BK229.out 0
       have hfs230 := blk_frozen BK229.out 0
       have hns230_0 := NB226_229.out
       have hns230_1 := NB227_229.out
       have hns230_2 := NB228_229.out
       have hns230_4 := NB247_229.out
       have hns230_5 := NB248_229.out
       have hms230_0 := NB229_226.out
       have hms230_1 := NB229_227.out
       have hms230_2 := NB229_228.out
       have hms230_4 := NB229_247.out
       have hms230_5 := NB229_248.out
       have hs231 : w226.cell? ⟨gb229, 1, none⟩ = some (.int .i64 0) := bc_ BK229.out 1
       have hfs231 := blk_frozen BK229.out 1
       have hns231_0 := NB226_229.out
       have hns231_1 := NB227_229.out
       have hns231_2 := NB228_229.out
       have hns231_4 := NB247_229.out
       have hns231_5 := NB248_229.out
       have hms231_0 := NB229_226.out
       have hms231_1 := NB229_227.out
       have hms231_2 := NB229_228.out
       have hms231_4 := NB229_247.out
       have hms231_5 := NB229_248.out
       have hs232 : w226.cell? ⟨gb229, 2, none⟩ = some (.int .i64 0) := bc_ BK229.out 2
       have hfs232 := blk_frozen BK229.out 2
       have hns232_0 := NB226_229.out
       have hns232_1 := NB227_229.out
       have hns232_2 := NB228_229.out
       have hns232_4 := NB247_229.out
       have hns232_5 := NB248_229.out
       have hms232_0 := NB229_226.out
       have hms232_1 := NB229_227.out
       have hms232_2 := NB229_228.out
       have hms232_4 := NB229_247.out
       have hms232_5 := NB229_248.out
       refine skip_ (w1 := ?_) (by rfl) rfl ?_ ?_
       rotate_left
       ·go_simp
        rfl
       refine hK.out _ _ ⟨((cell_far (p := ⟨gb229, _, none⟩) NB247_229.out _).trans (((cell_far (p := ⟨gb229, _, none⟩) NB247_229.out _).trans (((cell_far (p := ⟨gb229, _, none⟩) NB247_229.out _).trans (hHeld.1)))))), ((cell_far (p := ⟨gb229, _, none⟩) NB247_229.out _).trans (((cell_far (p := ⟨gb229, _, none⟩) NB247_229.out _).trans (((cell_far (p := ⟨gb229, _, none⟩) NB247_229.out _).trans (hHeld.2.1)))))), ((cell_far (p := ⟨gb229, _, none⟩) NB247_229.out _).trans (((cell_far (p := ⟨gb229, _, none⟩) NB247_229.out _).trans (((cell_far (p := ⟨gb229, _, none⟩) NB247_229.out _).trans (hHeld.2.2.1)))))), ((cell_far (p := ⟨gb229, _, none⟩) NB248_229.out _).trans (((cell_far (p := ⟨gb229, _, none⟩) NB248_229.out _).trans (((cell_far (p := ⟨gb229, _, none⟩) NB248_229.out _).trans (hHeld.2.2.2.1)))))), ((cell_far (p := ⟨gb229, _, none⟩) NB248_229.out _).trans (((cell_far (p := ⟨gb229, _, none⟩) NB248_229.out _).trans (((cell_far (p := ⟨gb229, _, none⟩) NB248_229.out _).trans (hHeld.2.2.2.2.1)))))), ((cell_far (p := ⟨gb229, _, none⟩) NB248_229.out _).trans (((cell_far (p := ⟨gb229, _, none⟩) NB248_229.out _).trans (((cell_far (p := ⟨gb229, _, none⟩) NB248_229.out _).trans (hHeld.2.2.2.2.2))))))⟩ (fun hHeld => ?_)
       clear hK K
       refine done_ (by kernel_rfl) ?_
       try go_wp2
       refine bodyPost_ret (results_cc rfl _ _ gb228 gb229 24 24 #[.bool true, .int .i64 t242, .int .i64 t243] #[.bool true, .int .i64 t242, .int .i64 t243] (0, 0) (0, 0) _ _ rfl (by (with_reducible repeat (first | apply bn_ | apply bd_ | apply ba_)); refine blk_far ?_ NB228_229.out _; (with_reducible repeat (first | apply bn_ | apply bd_ | apply ba_)); refine blk_far ?_ NB228_229.out _; (with_reducible repeat (first | apply bn_ | apply bd_ | apply ba_)); refine blk_far ?_ NB228_229.out _; (with_reducible repeat (first | apply bn_ | apply bd_ | apply ba_)); refine blk_put (cs := #[.bool true, .int .i64 t242, .int .i64 0]) ?_ 2 _ (by first | rfl | (simp [*]; done)); (with_reducible repeat (first | apply bn_ | apply bd_ | apply ba_)); refine blk_put (cs := #[.bool true, .int .i64 0, .int .i64 0]) ?_ 1 _ (by first | rfl | (simp [*]; done)); (with_reducible repeat (first | apply bn_ | apply bd_ | apply ba_)); refine blk_put (cs := #[.bool false, .int .i64 0, .int .i64 0]) ?_ 0 _ (by first | rfl | (simp [*]; done)); (with_reducible repeat (first | apply bn_ | apply bd_ | apply ba_)); exact BK228.out) Try.underlying24 rfl (by kernel_rfl) rfl (by (with_reducible repeat (first | apply bn_ | apply bd_ | apply ba_)); refine blk_put (cs := #[.bool true, .int .i64 t242, .int .i64 0]) ?_ 2 _ (by first | rfl | (simp [*]; done)); (with_reducible repeat (first | apply bn_ | apply bd_ | apply ba_)); refine blk_put (cs := #[.bool true, .int .i64 0, .int .i64 0]) ?_ 1 _ (by first | rfl | (simp [*]; done)); (with_reducible repeat (first | apply bn_ | apply bd_ | apply ba_)); refine blk_put (cs := #[.bool false, .int .i64 0, .int .i64 0]) ?_ 0 _ (by first | rfl | (simp [*]; done)); (with_reducible repeat (first | apply bn_ | apply bd_ | apply ba_)); refine blk_far ?_ NB229_228.out _; (with_reducible repeat (first | apply bn_ | apply bd_ | apply ba_)); refine blk_far ?_ NB229_228.out _; (with_reducible repeat (first | apply bn_ | apply bd_ | apply ba_)); refine blk_far ?_ NB229_228.out _; (with_reducible repeat (first | apply bn_ | apply bd_ | apply ba_)); exact BK229.out) Try.underlying24 rfl (by kernel_rfl)) rfl ?_
       exact ⟨by first | rfl | (simp [errW_none, errW_some] <;> rfl) | (simp [*, errW_none, errW_some] <;> rfl), by repeat (first | (with_reducible first | exact HB.out | apply b1_ | apply b2_ | apply b3_ | apply c_ GE226 | apply c_ GE227 | apply c_ GE228 | apply c_ GE229 | apply c_ GE247 | apply c_ GE248) | exact HB.out)⟩
      ·replace c200 := Bool.eq_false_iff.mpr c200
       subst c200
       have H1 : (some (false, 0, 0, false, 0, 0)) = some (r1, r2, r3, r4, r5, r6) := by rw [if_neg (show ¬ (false = true) by decide)] at H; exact H
       clear H
       have H := H1
       clear H1
       simp only [Option.some.injEq, Prod.mk.injEq] at H
       obtain ⟨rfl, rfl, rfl, rfl, rfl, rfl⟩ := H
       have hnb275 := NB247_226.out
       have hnc275 := NB226_247.out
       have hnb276 := NB247_227.out
       have hnc276 := NB227_247.out
       have hnb277 := NB247_228.out
       have hnc277 := NB228_247.out
       have hnb278 := NB247_229.out
       have hnc278 := NB229_247.out
       have hnb279 := NB247_248.out
       have hnc279 := NB248_247.out
       have hcz280_0 : w78.cell? ⟨gb247, 0, none⟩ = some (.bool false) := bc_ BK247.out 0
       have hcz280_1 : w78.cell? ⟨gb247, 1, none⟩ = some (.int .i64 0) := bc_ BK247.out 1
       have hcz280_2 : w78.cell? ⟨gb247, 2, none⟩ = some (.int .i64 0) := bc_ BK247.out 2
       have hfz280_0 := blk_frozen BK247.out 0
       have hfz280_1 := blk_frozen BK247.out 1
       have hfz280_2 := blk_frozen BK247.out 2
       have hnb281 := NB228_226.out
       have hnc281 := NB226_228.out
       have hnb282 := NB228_227.out
       have hnc282 := NB227_228.out
       have hnb283 := NB228_229.out
       have hnc283 := NB229_228.out
       have hnb284 := NB228_248.out
       have hnc284 := NB248_228.out
       have hcz285_0 : w78.cell? ⟨gb228, 0, none⟩ = some (.bool false) := bc_ BK228.out 0
       have hcz285_1 : w78.cell? ⟨gb228, 1, none⟩ = some (.int .i64 0) := bc_ BK228.out 1
       have hcz285_2 : w78.cell? ⟨gb228, 2, none⟩ = some (.int .i64 0) := bc_ BK228.out 2
       have hfz285_0 := blk_frozen BK228.out 0
       have hfz285_1 := blk_frozen BK228.out 1
       have hfz285_2 := blk_frozen BK228.out 2
       have hnb286 := NB229_226.out
       have hnc286 := NB226_229.out
       have hnb287 := NB229_227.out
       have hnc287 := NB227_229.out
       have hnb288 := NB229_248.out
       have hnc288 := NB248_229.out
       have hcz289_0 : w78.cell? ⟨gb229, 0, none⟩ = some (.bool false) := bc_ BK229.out 0
       have hcz289_1 : w78.cell? ⟨gb229, 1, none⟩ = some (.int .i64 0) := bc_ BK229.out 1
       have hcz289_2 : w78.cell? ⟨gb229, 2, none⟩ = some (.int .i64 0) := bc_ BK229.out 2
       have hfz289_0 := blk_frozen BK229.out 0
       have hfz289_1 := blk_frozen BK229.out 1
       have hfz289_2 := blk_frozen BK229.out 2
       try go_wp2
       refine bodyPost_ret (results_cc rfl _ _ gb228 gb229 24 24 #[.bool false, .int .i64 0, .int .i64 0] #[.bool false, .int .i64 0, .int .i64 0] (0, 0) (0, 0) _ _ rfl (by (with_reducible repeat (first | apply bn_ | apply bd_ | apply ba_)); refine blk_far ?_ NB228_229.out _; (with_reducible repeat (first | apply bn_ | apply bd_ | apply ba_)); refine blk_far ?_ NB228_229.out _; (with_reducible repeat (first | apply bn_ | apply bd_ | apply ba_)); refine blk_far ?_ NB228_229.out _; (with_reducible repeat (first | apply bn_ | apply bd_ | apply ba_)); refine blk_put (cs := #[.bool false, .int .i64 0, .int .i64 0]) ?_ 2 _ (by first | rfl | (simp [*]; done)); (with_reducible repeat (first | apply bn_ | apply bd_ | apply ba_)); refine blk_put (cs := #[.bool false, .int .i64 0, .int .i64 0]) ?_ 1 _ (by first | rfl | (simp [*]; done)); (with_reducible repeat (first | apply bn_ | apply bd_ | apply ba_)); refine blk_put (cs := #[.bool false, .int .i64 0, .int .i64 0]) ?_ 0 _ (by first | rfl | (simp [*]; done)); (with_reducible repeat (first | apply bn_ | apply bd_ | apply ba_)); refine blk_far ?_ NB228_248.out _; (with_reducible repeat (first | apply bn_ | apply bd_ | apply ba_)); refine blk_far ?_ NB228_248.out _; (with_reducible repeat (first | apply bn_ | apply bd_ | apply ba_)); refine blk_far ?_ NB228_248.out _; (with_reducible repeat (first | apply bn_ | apply bd_ | apply ba_)); refine blk_far ?_ NB228_247.out _; (with_reducible repeat (first | apply bn_ | apply bd_ | apply ba_)); refine blk_far ?_ NB228_247.out _; (with_reducible repeat (first | apply bn_ | apply bd_ | apply ba_)); refine blk_far ?_ NB228_247.out _; (with_reducible repeat (first | apply bn_ | apply bd_ | apply ba_)); exact BK228.out) Try.underlying24 rfl (by kernel_rfl) rfl (by (with_reducible repeat (first | apply bn_ | apply bd_ | apply ba_)); refine blk_put (cs := #[.bool false, .int .i64 0, .int .i64 0]) ?_ 2 _ (by first | rfl | (simp [*]; done)); (with_reducible repeat (first | apply bn_ | apply bd_ | apply ba_)); refine blk_put (cs := #[.bool false, .int .i64 0, .int .i64 0]) ?_ 1 _ (by first | rfl | (simp [*]; done)); (with_reducible repeat (first | apply bn_ | apply bd_ | apply ba_)); refine blk_put (cs := #[.bool false, .int .i64 0, .int .i64 0]) ?_ 0 _ (by first | rfl | (simp [*]; done)); (with_reducible repeat (first | apply bn_ | apply bd_ | apply ba_)); refine blk_far ?_ NB229_228.out _; (with_reducible repeat (first | apply bn_ | apply bd_ | apply ba_)); refine blk_far ?_ NB229_228.out _; (with_reducible repeat (first | apply bn_ | apply bd_ | apply ba_)); refine blk_far ?_ NB229_228.out _; (with_reducible repeat (first | apply bn_ | apply bd_ | apply ba_)); refine blk_far ?_ NB229_248.out _; (with_reducible repeat (first | apply bn_ | apply bd_ | apply ba_)); refine blk_far ?_ NB229_248.out _; (with_reducible repeat (first | apply bn_ | apply bd_ | apply ba_)); refine blk_far ?_ NB229_248.out _; (with_reducible repeat (first | apply bn_ | apply bd_ | apply ba_)); refine blk_far ?_ NB229_247.out _; (with_reducible repeat (first | apply bn_ | apply bd_ | apply ba_)); refine blk_far ?_ NB229_247.out _; (with_reducible repeat (first | apply bn_ | apply bd_ | apply ba_)); refine blk_far ?_ NB229_247.out _; (with_reducible repeat (first | apply bn_ | apply bd_ | apply ba_)); exact BK229.out) Try.underlying24 rfl (by kernel_rfl)) rfl ?_
       exact ⟨by first | rfl | (simp [errW_none, errW_some] <;> rfl) | (simp [*, errW_none, errW_some] <;> rfl), by repeat (first | (with_reducible first | exact HB.out | apply b1_ | apply b2_ | apply b3_ | apply c_ GE226 | apply c_ GE227 | apply c_ GE228 | apply c_ GE229 | apply c_ GE247 | apply c_ GE248) | exact HB.out)⟩

end Go.Proofs.Ytlnihglcneaonaa.QFnExactRelMeet
