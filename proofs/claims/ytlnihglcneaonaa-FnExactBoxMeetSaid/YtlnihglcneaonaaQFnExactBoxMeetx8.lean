/- The machine side of one law: each function and the law itself walked once, written by a program of this session (wip/xprint.py) that runs the printer of the kit.
   Conditions: none. -/
import Derived.Test.YtlnihglcneaonaaQFnExactBoxMeetx0
import Derived.Test.YtlnihglcneaonaaQFnExactBoxMeetx1
import Derived.Test.YtlnihglcneaonaaQFnExactBoxMeetx4
import Derived.Test.YtlnihglcneaonaaQFnExactBoxMeetx6
import Derived.Test.YtlnihglcneaonaaQFnExactBoxMeetx7
namespace Go.Proofs.Ytlnihglcneaonaa.QFnExactBoxMeet
open Go.RowKit Go.Proofs.YtlnihglcneaonaaW.PrintWords Go.Proofs.YtlnihglcneaonaaW.PrintLast Go.Proofs.YtlnihglcneaonaaW.PrintMore
attribute [local go_sem] Go.Instr.field Go.asAgg Go.Proofs.Ytlnihglcneaonaa.MS.isSome_setCell
attribute [local go_sem] max2_int min2_int max_two min_two max_three min_three max_four min_four   -- for this text's walks alone
set_option linter.unusedVariables false
set_option linter.unusedSimpArgs false
theorem bn_ {W : World} {g : Nat} {o : Obj} (h : W.heap[g]? = some o) (n : Nat) : (W.drewN n).heap[g]? = some o := blk_drewN h n
theorem bd_ {W : World} {g : Nat} {o : Obj} (h : W.heap[g]? = some o) : W.drew.heap[g]? = some o := blk_drew h
theorem ba_ {W : World} {g : Nat} {o : Obj} (h : W.heap[g]? = some o) (o' : Obj) : (W.alloc o').heap[g]? = some o := blk_alloc h o'
theorem b1_ {w w1 : World} (h : Below w.heap.size w w1) (o : Obj) : Below w.heap.size w (w1.alloc o) := below_alloc h o
theorem b2_ {n : Nat} {w w1 : World} (h : Below n w w1) (m : Nat) : Below n w (w1.drewN m) := pw_below_drewN h m
theorem b3_ {n : Nat} {w w1 : World} (h : Below n w w1) : Below n w w1.drew := below_drew h
class Bl_ (W : outParam World) (W' : World) : Prop where
 h : Below W.heap.size W W'
instance (priority := low) {W : World} : Bl_ W W := ⟨Below.refl _ _⟩
instance {W W' : World} [b : Bl_ W W'] (n : Nat) : Bl_ W (W'.drewN n) := ⟨pw_below_drewN b.h n⟩
instance {W W' : World} [b : Bl_ W W'] : Bl_ W W'.drew := ⟨below_drew b.h⟩
instance {W W' : World} [b : Bl_ W W'] (o : Obj) : Bl_ W (W'.alloc o) := ⟨below_alloc b.h o⟩
theorem bz_ {W W' : World} {g : Nat} {o : Obj} (h : W.heap[g]? = some o) [b : Bl_ W W'] : W'.heap[g]? = some o := (b.h.block g (Array.getElem?_eq_some_iff.1 h).1).trans h
theorem rz_ {α : Type} {d : Kd α} {e : Nat} {W W' : World} {base : Nat} {ok : Nat → Prop} {v : Value} {xs : List α} (h : d.R e W base ok v xs) [b : Bl_ W W'] : d.R e W' base ok v xs := Kd.R_below h b.h
theorem nl_ {W : World} {g gb : Nat} {o : Obj} (hg : gb = W.heap.size) (h : W.heap[g]? = some o) : g ≠ gb := by rw [hg]; exact Nat.ne_of_lt (blk_lt h)
theorem ng_ {W : World} {g gb : Nat} {o : Obj} (hg : gb = W.heap.size) (h : W.heap[g]? = some o) : gb ≠ g := by rw [hg]; exact Nat.ne_of_gt (blk_lt h)
theorem c_ {w W : World} {g j : Nat} {v : Value} (hg : Aside0 (w.heap.size ≤ g)) (h : Below w.heap.size w W) : Below w.heap.size w (W.setCell ⟨g, j, none⟩ v) := below_set h hg.out
theorem bf_ {W : World} {g g' j t : Nat} {cells : Array Value} {v : Value} (h : W.heap[g]? = some (.cells cells t (0, 0))) (hne : g ≠ g') : (W.setCell ⟨g', j, none⟩ v).heap[g]? = some (.cells cells t (0, 0)) := blk_far h hne _
theorem rs_ {α : Type} {d : Kd α} {e : Nat} {W : World} {base g t : Nat} {ok : Nat → Prop} {v : Value} {xs : List α} {cells : Array Value} (h : d.R e W base ok v xs) (hb : W.heap[g]? = some (.cells cells t (0, 0))) (ht : ∀ q, q ∈ e :: d.E → q ≠ t) (u : Value) : d.R e (W.setCell ⟨g, 0, none⟩ u) base ok v xs := Kd.R_mono (Kd.R_far (p := ⟨g, 0, none⟩) (Kd.R_types h hb ht) (fun _ hk => hk.2) u) (fun _ h_ => h_.1)
theorem A_ {p : Prop} (h : p) : Aside0 p := Aside0.mk h
theorem bs_ {w W : World} {g j : Nat} {v : Value} (h : Below w.heap.size w W) (hg : w.heap.size ≤ g) : Below w.heap.size w (W.setCell ⟨g, j, none⟩ v) := below_set h hg

/-! ### laws_FnExactBoxMeet: function 7 -/
mutual
def laws_FnExactBoxMeet.j0 : Nat → Int → Bool → Bool → Bool → List (S87) → List (S87) → List (S64) → List (S64) → List (S64) → List (S64) → Option (Bool)
 | 0, _, _, _, _, _, _, _, _, _, _ => none
 | k + 1, x0, x9, x13, x57, x211000, x212000, x225000, x229000, x233000, x238000 => if x57 = true then (some false) else ((laws_toBox.f k x211000).bind fun t239 => ((laws_eqBox.f k x229000 t239).bind fun t242 => (if t242 = true then ((laws_toBox.f k x212000).bind fun t243 => ((laws_eqBox.f k x233000 t243).bind fun t246 => (if t246 = true then ((laws_markBox.f k x229000 1).bind fun bt247 => ((laws_markBox.f k x233000 bt247.1).bind fun bt249 => (if bt249.1 < 0 then (laws_FnExactBoxMeet.j1 k x0 x9 true x211000 x212000 x225000 x238000) else ((laws_eqBox.f k x238000 x225000).bind fun t251 => (if t251 = true then (laws_FnExactBoxMeet.j1 k x0 x9 (x13 != x9) x211000 x212000 x225000 x238000) else (laws_FnExactBoxMeet.j1 k x0 x9 true x211000 x212000 x225000 x238000)))))) else (some false)))) else (some false))))
def laws_FnExactBoxMeet.j1 : Nat → Int → Bool → Bool → List (S87) → List (S87) → List (S64) → List (S64) → Option (Bool)
 | 0, _, _, _, _, _, _, _ => none
 | k + 1, x0, x9, x86, x211000, x212000, x225000, x238000 => if x86 = true then (some false) else ((laws_markBox.f k x238000 1).bind fun bt252 => ((laws_heldBox.f k bt252.2 1).bind fun t254 => (if t254 < 0 then (some false) else (if t254 = bt252.1 then ((laws_toBox.f k x211000).bind fun t255 => ((laws_toBox.f k x212000).bind fun t258 => ((impl_BoxMeet.f k x0 t255 t258).bind fun bt261 => ((laws_eqBox.f k bt261.1 x225000).bind fun t266 => (if t266 = true then (laws_FnExactBoxMeet.j2 k bt252.1 (bt261.2 != x9) bt252.2) else (laws_FnExactBoxMeet.j2 k bt252.1 true bt252.2)))))) else (some false)))))
def laws_FnExactBoxMeet.j2 : Nat → Int → Bool → List (S64) → Option (Bool)
 | 0, _, _, _ => none
 | k + 1, x15, x115, x238000 => if x115 = true then (some false) else ((laws_heldBox.f k x238000 1).bind fun t267 => (if t267 < 0 then (some false) else (if t267 = x15 then (some true) else (some false))))
end
def laws_FnExactBoxMeet.f (k : Nat) (a0 : Int) (l1_0 : List (S87)) (l2_0 : List (S87)) : Option (Bool) := (laws_szBox.f l1_0 1048576).bind fun t212 => (if t212 < 0 then (some true) else ((laws_szBox.f l2_0 t212).bind fun t213 => (if t213 < 0 then (some true) else ((laws_toBox.f k l1_0).bind fun t214 => ((laws_toBox.f k l2_0).bind fun t217 => ((spec_BoxMeet.f k a0 t214 t217).bind fun bt220 => ((laws_toBox.f k l1_0).bind fun t225 => ((laws_toBox.f k l2_0).bind fun t229 => ((impl_BoxMeet.f k a0 t225 t229).bind fun bt233 => ((laws_eqBox.f k bt233.1 bt220.1).bind fun t238 => (if t238 = true then (laws_FnExactBoxMeet.j0 k a0 bt220.2 bt233.2 (bt233.2 != bt220.2) l1_0 l2_0 bt220.1 t225 t229 bt233.1) else (laws_FnExactBoxMeet.j0 k a0 bt220.2 bt233.2 true l1_0 l2_0 bt220.1 t225 t229 bt233.1))))))))))))
theorem laws_FnExactBoxMeet.mono_l : ∀ k, (∀ y0 y1 y2 y3 y4 y5 y6 y7 y8 y9, LeO (laws_FnExactBoxMeet.j0 k y0 y1 y2 y3 y4 y5 y6 y7 y8 y9) (laws_FnExactBoxMeet.j0 (k + 1) y0 y1 y2 y3 y4 y5 y6 y7 y8 y9)) ∧ (∀ y0 y1 y2 y3 y4 y5 y6, LeO (laws_FnExactBoxMeet.j1 k y0 y1 y2 y3 y4 y5 y6) (laws_FnExactBoxMeet.j1 (k + 1) y0 y1 y2 y3 y4 y5 y6)) ∧ (∀ y0 y1 y2, LeO (laws_FnExactBoxMeet.j2 k y0 y1 y2) (laws_FnExactBoxMeet.j2 (k + 1) y0 y1 y2))
 | 0 => ⟨fun _ _ _ _ _ _ _ _ _ _ r h => by simp [laws_FnExactBoxMeet.j0] at h, fun _ _ _ _ _ _ _ r h => by simp [laws_FnExactBoxMeet.j1] at h, fun _ _ _ r h => by simp [laws_FnExactBoxMeet.j2] at h⟩
 | k + 1 => by
  obtain ⟨ih0, ih1, ih2⟩ := laws_FnExactBoxMeet.mono_l k
  refine ⟨?_, ?_, ?_⟩
  ·intro y0 y1 y2 y3 y4 y5 y6 y7 y8 y9
   unfold laws_FnExactBoxMeet.j0
   repeat' first
   | (with_reducible exact ih0 _ _ _ _ _ _ _ _ _ _)
   | (with_reducible exact ih1 _ _ _ _ _ _ _)
   | (with_reducible exact ih2 _ _ _)
   | (with_reducible exact impl_BoxMeet.mono _ _ _ _)
   | (with_reducible exact laws_eqBox.mono _ _ _)
   | (with_reducible exact laws_heldBox.mono _ _ _)
   | (with_reducible exact laws_markBox.mono _ _ _)
   | (with_reducible exact laws_toBox.mono _ _)
   | (with_reducible exact spec_BoxMeet.mono _ _ _ _)
   | (with_reducible exact LeO.refl _)
   | (with_reducible exact LeO.none _)
   | (with_reducible refine LeO.ite ?_ ?_)
   | (with_reducible refine LeO.bind ?_ (fun _ => ?_))
   | exact ih0 _ _ _ _ _ _ _ _ _ _
   | exact ih1 _ _ _ _ _ _ _
   | exact ih2 _ _ _
   | exact impl_BoxMeet.mono _ _ _ _
   | exact laws_eqBox.mono _ _ _
   | exact laws_heldBox.mono _ _ _
   | exact laws_markBox.mono _ _ _
   | exact laws_toBox.mono _ _
   | exact spec_BoxMeet.mono _ _ _ _
   | exact LeO.none _
   | refine LeO.ite ?_ ?_
   | refine LeO.bind ?_ (fun _ => ?_)
  ·intro y0 y1 y2 y3 y4 y5 y6
   unfold laws_FnExactBoxMeet.j1
   repeat' first
   | (with_reducible exact ih0 _ _ _ _ _ _ _ _ _ _)
   | (with_reducible exact ih1 _ _ _ _ _ _ _)
   | (with_reducible exact ih2 _ _ _)
   | (with_reducible exact impl_BoxMeet.mono _ _ _ _)
   | (with_reducible exact laws_eqBox.mono _ _ _)
   | (with_reducible exact laws_heldBox.mono _ _ _)
   | (with_reducible exact laws_markBox.mono _ _ _)
   | (with_reducible exact laws_toBox.mono _ _)
   | (with_reducible exact spec_BoxMeet.mono _ _ _ _)
   | (with_reducible exact LeO.refl _)
   | (with_reducible exact LeO.none _)
   | (with_reducible refine LeO.ite ?_ ?_)
   | (with_reducible refine LeO.bind ?_ (fun _ => ?_))
   | exact ih0 _ _ _ _ _ _ _ _ _ _
   | exact ih1 _ _ _ _ _ _ _
   | exact ih2 _ _ _
   | exact impl_BoxMeet.mono _ _ _ _
   | exact laws_eqBox.mono _ _ _
   | exact laws_heldBox.mono _ _ _
   | exact laws_markBox.mono _ _ _
   | exact laws_toBox.mono _ _
   | exact spec_BoxMeet.mono _ _ _ _
   | exact LeO.none _
   | refine LeO.ite ?_ ?_
   | refine LeO.bind ?_ (fun _ => ?_)
  ·intro y0 y1 y2
   unfold laws_FnExactBoxMeet.j2
   repeat' first
   | (with_reducible exact ih0 _ _ _ _ _ _ _ _ _ _)
   | (with_reducible exact ih1 _ _ _ _ _ _ _)
   | (with_reducible exact ih2 _ _ _)
   | (with_reducible exact impl_BoxMeet.mono _ _ _ _)
   | (with_reducible exact laws_eqBox.mono _ _ _)
   | (with_reducible exact laws_heldBox.mono _ _ _)
   | (with_reducible exact laws_markBox.mono _ _ _)
   | (with_reducible exact laws_toBox.mono _ _)
   | (with_reducible exact spec_BoxMeet.mono _ _ _ _)
   | (with_reducible exact LeO.refl _)
   | (with_reducible exact LeO.none _)
   | (with_reducible refine LeO.ite ?_ ?_)
   | (with_reducible refine LeO.bind ?_ (fun _ => ?_))
   | exact ih0 _ _ _ _ _ _ _ _ _ _
   | exact ih1 _ _ _ _ _ _ _
   | exact ih2 _ _ _
   | exact impl_BoxMeet.mono _ _ _ _
   | exact laws_eqBox.mono _ _ _
   | exact laws_heldBox.mono _ _ _
   | exact laws_markBox.mono _ _ _
   | exact laws_toBox.mono _ _
   | exact spec_BoxMeet.mono _ _ _ _
   | exact LeO.none _
   | refine LeO.ite ?_ ?_
   | refine LeO.bind ?_ (fun _ => ?_)
theorem laws_FnExactBoxMeet.mono : ∀ a0 a1 a2 k, LeO (laws_FnExactBoxMeet.f k a0 a1 a2) (laws_FnExactBoxMeet.f (k + 1) a0 a1 a2) := by
 intro a0 a1 a2 k
 obtain ⟨ih0, ih1, ih2⟩ := laws_FnExactBoxMeet.mono_l k
 unfold laws_FnExactBoxMeet.f
 repeat' first
   | (with_reducible exact ih0 _ _ _ _ _ _ _ _ _ _)
   | (with_reducible exact ih1 _ _ _ _ _ _ _)
   | (with_reducible exact ih2 _ _ _)
   | (with_reducible exact impl_BoxMeet.mono _ _ _ _)
   | (with_reducible exact laws_eqBox.mono _ _ _)
   | (with_reducible exact laws_heldBox.mono _ _ _)
   | (with_reducible exact laws_markBox.mono _ _ _)
   | (with_reducible exact laws_toBox.mono _ _)
   | (with_reducible exact spec_BoxMeet.mono _ _ _ _)
   | (with_reducible exact LeO.refl _)
   | (with_reducible exact LeO.none _)
   | (with_reducible refine LeO.ite ?_ ?_)
   | (with_reducible refine LeO.bind ?_ (fun _ => ?_))
   | exact ih0 _ _ _ _ _ _ _ _ _ _
   | exact ih1 _ _ _ _ _ _ _
   | exact ih2 _ _ _
   | exact impl_BoxMeet.mono _ _ _ _
   | exact laws_eqBox.mono _ _ _
   | exact laws_heldBox.mono _ _ _
   | exact laws_markBox.mono _ _ _
   | exact laws_toBox.mono _ _
   | exact spec_BoxMeet.mono _ _ _ _
   | exact LeO.none _
   | refine LeO.ite ?_ ?_
   | refine LeO.bind ?_ (fun _ => ?_)
def laws_FnExactBoxMeet.T8 : Bool × List (List Nat × List Nat) := (true, [([], []), ([], []), ([1], [1]), ([], []), ([3, 2], [3]), ([0, 2, 4, 4], [0, 2, 4]), ([5], [5]), ([6], [6]), ([6], [6]), ([], []), ([9, 7, 5, 0, 1, 2, 3, 4, 5, 6, 7, 9], [7, 9]), ([8, 10, 0, 1, 2, 3, 4, 5, 6, 7, 8, 9, 10], [8])])
def laws_FnExactBoxMeet.B8 : List Nat := [0, 0, 2, 0, 14, 31, 63, 127, 127, 0, 767, 2047]
theorem laws_FnExactBoxMeet.tab8 : rtab .any (opsOf Try.f7 8) = laws_FnExactBoxMeet.T8 := by kernel_rfl
theorem laws_FnExactBoxMeet.bits8 : waitsOk laws_FnExactBoxMeet.T8.2 laws_FnExactBoxMeet.B8 = true := by kernel_rfl
def laws_FnExactBoxMeet.T31 : Bool × List (List Nat × List Nat) := (true, [([], []), ([], []), ([1], [1]), ([], []), ([3, 2], [3]), ([0, 2, 4, 4], [0, 2, 4]), ([5], [5]), ([6], [6]), ([6], [6]), ([], []), ([9, 7, 5, 0, 1, 2, 3, 4, 5, 6, 7, 9], [7, 9]), ([8, 10, 0, 1, 2, 3, 4, 5, 6, 7, 8, 9, 10], [8])])
def laws_FnExactBoxMeet.B31 : List Nat := [0, 0, 2, 0, 14, 31, 63, 127, 127, 0, 767, 2047]
theorem laws_FnExactBoxMeet.tab31 : rtab .any (opsOf Try.f7 31) = laws_FnExactBoxMeet.T31 := by kernel_rfl
theorem laws_FnExactBoxMeet.bits31 : waitsOk laws_FnExactBoxMeet.T31.2 laws_FnExactBoxMeet.B31 = true := by kernel_rfl
set_option maxHeartbeats 8000000 in
set_option maxRecDepth 100000 in
theorem laws_FnExactBoxMeet.calls (k : Nat) (a0 : Int) (A1_0 : Option Addr) (c1_0 : Nat) (l1_0 : List (S87)) (A2_0 : Option Addr) (c2_0 : Nat) (l2_0 : List (S87)) (r : Bool) (w : World) (hr1_0 : Kd.C k87 w A1_0 l1_0.length l1_0) (hc1_0 : l1_0.length ≤ c1_0) (hr2_0 : Kd.C k87 w A2_0 l2_0.length l2_0) (hc2_0 : l2_0.length ≤ c2_0) (h : laws_FnExactBoxMeet.f k a0 l1_0 l2_0 = some r) (hr : Aside0 (true = r)) :
  Calls Try.prog 7 #[.int .i64 a0, .agg #[.slice A1_0 l1_0.length c1_0], .agg #[.slice A2_0 l2_0.length c2_0]] w fun e w' => e = .returned (.bool r) ∧ Below w.heap.size w w' := by
 have hu32 := Try.underlying32
 have hu37 := Try.underlying37
 have HR1_0 := A_ hr1_0
 have HC1_0 := A_ hc1_0
 clear hr1_0 hc1_0
 have HR2_0 := A_ hr2_0
 have HC2_0 := A_ hc2_0
 clear hr2_0 hc2_0
 have HB := A_ (Below.refl w.heap.size w)
 have H : ((laws_szBox.f l1_0 1048576).bind fun t212 => (if t212 < 0 then (some true) else ((laws_szBox.f l2_0 t212).bind fun t213 => (if t213 < 0 then (some true) else ((laws_toBox.f k l1_0).bind fun t214 => ((laws_toBox.f k l2_0).bind fun t217 => ((spec_BoxMeet.f k a0 t214 t217).bind fun bt220 => ((laws_toBox.f k l1_0).bind fun t225 => ((laws_toBox.f k l2_0).bind fun t229 => ((impl_BoxMeet.f k a0 t225 t229).bind fun bt233 => ((laws_eqBox.f k bt233.1 bt220.1).bind fun t238 => (if t238 = true then (laws_FnExactBoxMeet.j0 k a0 bt220.2 bt233.2 (bt233.2 != bt220.2) l1_0 l2_0 bt220.1 t225 t229 bt233.1) else (laws_FnExactBoxMeet.j0 k a0 bt220.2 bt233.2 true l1_0 l2_0 bt220.1 t225 t229 bt233.1))))))))))))) = some r := h
 clear h
 replace H := Option.bind_eq_some_iff.mp H
 obtain ⟨t212, A40, H⟩ := H
 replace H : (if t212 < 0 then (some true) else ((laws_szBox.f l2_0 t212).bind fun t213 => (if t213 < 0 then (some true) else ((laws_toBox.f k l1_0).bind fun t214 => ((laws_toBox.f k l2_0).bind fun t217 => ((spec_BoxMeet.f k a0 t214 t217).bind fun bt220 => ((laws_toBox.f k l1_0).bind fun t225 => ((laws_toBox.f k l2_0).bind fun t229 => ((impl_BoxMeet.f k a0 t225 t229).bind fun bt233 => ((laws_eqBox.f k bt233.1 bt220.1).bind fun t238 => (if t238 = true then (laws_FnExactBoxMeet.j0 k a0 bt220.2 bt233.2 (bt233.2 != bt220.2) l1_0 l2_0 bt220.1 t225 t229 bt233.1) else (laws_FnExactBoxMeet.j0 k a0 bt220.2 bt233.2 true l1_0 l2_0 bt220.1 t225 t229 bt233.1)))))))))))) = some r := H
 have A4 := A_ A40
 clear A40
 by_cases c5 : t212 < 0
 ·rw [if_pos c5] at H
  have c5b0 : decide (t212 < 0) = true := decide_eq_true c5
  clear c5
  clear hr
  obtain rfl := Option.some.inj H
  go_enter Try.func7, Try.ntmps7
  go_wp2_with (first | ((with_reducible refine gate_dst (N := 4) rfl ?_); refine box_event ?hg (N := 4) ?hd (cs := #[.slice A1_0 l1_0.length c1_0]) (t := 32) ?hr ?_; (case hd => rfl); (case hg => rfl); (case hr => first | (go_simp; done) | (go_simp; rfl)); intro gb210 hg w6 hbox hb; have n0_ := A_ (below_step (by repeat (first | (with_reducible first | exact HB.out | apply b1_ | apply b2_ | apply b3_) | exact HB.out)) hb); have n1_ := A_ (hbox); have n2_ := A_ ((by rw [hg]; exact (below_size (by repeat (first | (with_reducible first | exact HB.out | apply b1_ | apply b2_ | apply b3_) | exact HB.out))) : w.heap.size ≤ gb210)); have n3_ := n2_; clear HB; have HB := n0_; have BK210 := n1_; have GW210 := n2_; have GE210 := n3_; clear n0_ n1_ n2_ n3_; clear hb hbox hg) | ((with_reducible refine gate_dst (N := 5) rfl ?_); refine box_event ?hg (N := 5) ?hd (cs := #[.slice A2_0 l2_0.length c2_0]) (t := 32) ?hr ?_; (case hd => rfl); (case hg => rfl); (case hr => first | (go_simp; done) | (go_simp; rfl)); intro gb211 hg w7 hbox hb; have n0_ := A_ (blk_below (bz_ BK210.out) hb); have n1_ := A_ (below_step (by repeat (first | (with_reducible first | exact HB.out | apply b1_ | apply b2_ | apply b3_ | apply c_ GE210) | exact HB.out)) hb); have n2_ := A_ (hbox); have n3_ := A_ ((by rw [hg]; exact (below_size (by repeat (first | (with_reducible first | exact HB.out | apply b1_ | apply b2_ | apply b3_ | apply c_ GE210) | exact HB.out))) : w.heap.size ≤ gb211)); have n4_ := n3_; have n5_ := A_ ((by rw [hg]; exact Nat.ne_of_lt (blk_lt (bz_ BK210.out)) : gb210 ≠ gb211)); have n6_ := A_ ((by rw [hg]; exact Nat.ne_of_gt (blk_lt (bz_ BK210.out)) : gb211 ≠ gb210)); clear BK210 HB; have BK210 := n0_; have HB := n1_; have BK211 := n2_; have GW211 := n3_; have GE211 := n4_; have NB210_211 := n5_; have NB211_210 := n6_; clear n0_ n1_ n2_ n3_ n4_ n5_ n6_; clear hb hbox hg; have hnb8 := NB210_211.out; have hnc8 := NB211_210.out; have hcz9_0 : w7.cell? ⟨gb210, 0, none⟩ = some (.slice A1_0 l1_0.length c1_0) := (blk_cell BK210.out 0).trans rfl; have hfz9_0 := blk_frozen BK210.out 0) | ((with_reducible refine gate_callee (f := 13) rfl ?_); refine goesL_ (some 21) rfl rfl Try.func13 (by kernel_rfl) rfl #[.agg #[.slice A1_0 l1_0.length c1_0], .int .i64 1048576] rfl (by (try simp only [List.map_toArray, List.map_cons, List.map_nil]); first | done | rfl) ?_; (with_reducible refine (laws_szBox.calls _ _ l1_0 1048576 t212 _ ?side1 ?side2 A4.out).mono ?_); (case side1 => repeat (first | exact (Kd.C_below HR1_0.out HB.out) | (with_reducible refine Kd.C_alloc ?_ _) | (with_reducible refine Kd.C_drewN ?_ _) | (with_reducible refine Kd.C_drew ?_))); (case side2 => exact HC1_0.out); rintro e w10 ⟨rfl, hb⟩; refine ⟨_, rfl, ?_⟩; have n0_ := A_ (blk_below (bz_ BK210.out) hb); have n1_ := A_ (blk_below (bz_ BK211.out) hb); have n2_ := A_ (below_step (by repeat (first | (with_reducible first | exact HB.out | apply b1_ | apply b2_ | apply b3_ | apply c_ GE210 | apply c_ GE211) | exact HB.out)) hb); clear BK210 BK211 HB; have BK210 := n0_; have BK211 := n1_; have HB := n2_; clear n0_ n1_ n2_; (try clear hb); (try clear hb2); (try clear hk); (try clear hi)))
  go_ret
  exact ⟨by first | rfl | (simp [errW_none, errW_some] <;> rfl) | (simp [*, errW_none, errW_some] <;> rfl), by repeat (first | (with_reducible first | exact HB.out | apply b1_ | apply b2_ | apply b3_ | apply c_ GE210 | apply c_ GE211) | exact HB.out)⟩
 ·rw [if_neg c5] at H
  have c5b0 : decide (t212 < 0) = false := decide_eq_false c5
  clear c5
  replace H := Option.bind_eq_some_iff.mp H
  obtain ⟨t213, A110, H⟩ := H
  replace H : (if t213 < 0 then (some true) else ((laws_toBox.f k l1_0).bind fun t214 => ((laws_toBox.f k l2_0).bind fun t217 => ((spec_BoxMeet.f k a0 t214 t217).bind fun bt220 => ((laws_toBox.f k l1_0).bind fun t225 => ((laws_toBox.f k l2_0).bind fun t229 => ((impl_BoxMeet.f k a0 t225 t229).bind fun bt233 => ((laws_eqBox.f k bt233.1 bt220.1).bind fun t238 => (if t238 = true then (laws_FnExactBoxMeet.j0 k a0 bt220.2 bt233.2 (bt233.2 != bt220.2) l1_0 l2_0 bt220.1 t225 t229 bt233.1) else (laws_FnExactBoxMeet.j0 k a0 bt220.2 bt233.2 true l1_0 l2_0 bt220.1 t225 t229 bt233.1)))))))))) = some r := H
  have A11 := A_ A110
  clear A110
  by_cases c12 : t213 < 0
  ·rw [if_pos c12] at H
   have c12b0 : decide (t213 < 0) = true := decide_eq_true c12
   clear c12
   clear hr
   obtain rfl := Option.some.inj H
   go_enter Try.func7, Try.ntmps7
   go_wp2_with (first | ((with_reducible refine gate_dst (N := 4) rfl ?_); refine box_event ?hg (N := 4) ?hd (cs := #[.slice A1_0 l1_0.length c1_0]) (t := 32) ?hr ?_; (case hd => rfl); (case hg => rfl); (case hr => first | (go_simp; done) | (go_simp; rfl)); intro gb210 hg w13 hbox hb; have n0_ := A_ (below_step (by repeat (first | (with_reducible first | exact HB.out | apply b1_ | apply b2_ | apply b3_) | exact HB.out)) hb); have n1_ := A_ (hbox); have n2_ := A_ ((by rw [hg]; exact (below_size (by repeat (first | (with_reducible first | exact HB.out | apply b1_ | apply b2_ | apply b3_) | exact HB.out))) : w.heap.size ≤ gb210)); have n3_ := n2_; clear HB; have HB := n0_; have BK210 := n1_; have GW210 := n2_; have GE210 := n3_; clear n0_ n1_ n2_ n3_; clear hb hbox hg) | ((with_reducible refine gate_dst (N := 5) rfl ?_); refine box_event ?hg (N := 5) ?hd (cs := #[.slice A2_0 l2_0.length c2_0]) (t := 32) ?hr ?_; (case hd => rfl); (case hg => rfl); (case hr => first | (go_simp; done) | (go_simp; rfl)); intro gb211 hg w14 hbox hb; have n0_ := A_ (blk_below (bz_ BK210.out) hb); have n1_ := A_ (below_step (by repeat (first | (with_reducible first | exact HB.out | apply b1_ | apply b2_ | apply b3_ | apply c_ GE210) | exact HB.out)) hb); have n2_ := A_ (hbox); have n3_ := A_ ((by rw [hg]; exact (below_size (by repeat (first | (with_reducible first | exact HB.out | apply b1_ | apply b2_ | apply b3_ | apply c_ GE210) | exact HB.out))) : w.heap.size ≤ gb211)); have n4_ := n3_; have n5_ := A_ ((by rw [hg]; exact Nat.ne_of_lt (blk_lt (bz_ BK210.out)) : gb210 ≠ gb211)); have n6_ := A_ ((by rw [hg]; exact Nat.ne_of_gt (blk_lt (bz_ BK210.out)) : gb211 ≠ gb210)); clear BK210 HB; have BK210 := n0_; have HB := n1_; have BK211 := n2_; have GW211 := n3_; have GE211 := n4_; have NB210_211 := n5_; have NB211_210 := n6_; clear n0_ n1_ n2_ n3_ n4_ n5_ n6_; clear hb hbox hg; have hnb15 := NB210_211.out; have hnc15 := NB211_210.out; have hcz16_0 : w14.cell? ⟨gb210, 0, none⟩ = some (.slice A1_0 l1_0.length c1_0) := (blk_cell BK210.out 0).trans rfl; have hfz16_0 := blk_frozen BK210.out 0) | ((with_reducible refine gate_callee (f := 13) rfl ?_); refine goesL_ (some 21) rfl rfl Try.func13 (by kernel_rfl) rfl #[.agg #[.slice A1_0 l1_0.length c1_0], .int .i64 1048576] rfl (by (try simp only [List.map_toArray, List.map_cons, List.map_nil]); first | done | rfl) ?_; (with_reducible refine (laws_szBox.calls _ _ l1_0 1048576 t212 _ ?side1 ?side2 A4.out).mono ?_); (case side1 => repeat (first | exact (Kd.C_below HR1_0.out HB.out) | (with_reducible refine Kd.C_alloc ?_ _) | (with_reducible refine Kd.C_drewN ?_ _) | (with_reducible refine Kd.C_drew ?_))); (case side2 => exact HC1_0.out); rintro e w17 ⟨rfl, hb⟩; refine ⟨_, rfl, ?_⟩; have n0_ := A_ (blk_below (bz_ BK210.out) hb); have n1_ := A_ (blk_below (bz_ BK211.out) hb); have n2_ := A_ (below_step (by repeat (first | (with_reducible first | exact HB.out | apply b1_ | apply b2_ | apply b3_ | apply c_ GE210 | apply c_ GE211) | exact HB.out)) hb); clear BK210 BK211 HB; have BK210 := n0_; have BK211 := n1_; have HB := n2_; clear n0_ n1_ n2_; (try clear hb); (try clear hb2); (try clear hk); (try clear hi); have hcz18_0 : w17.cell? ⟨gb211, 0, none⟩ = some (.slice A2_0 l2_0.length c2_0) := (blk_cell BK211.out 0).trans rfl; have hfz18_0 := blk_frozen BK211.out 0) | ((with_reducible refine gate_callee (f := 13) rfl ?_); refine goesL_ (some 26) rfl rfl Try.func13 (by kernel_rfl) rfl #[.agg #[.slice A2_0 l2_0.length c2_0], .int .i64 t212] rfl (by (try simp only [List.map_toArray, List.map_cons, List.map_nil]); first | done | rfl) ?_; (with_reducible refine (laws_szBox.calls _ _ l2_0 t212 t213 _ ?side1 ?side2 A11.out).mono ?_); (case side1 => repeat (first | exact (Kd.C_below HR2_0.out HB.out) | (with_reducible refine Kd.C_alloc ?_ _) | (with_reducible refine Kd.C_drewN ?_ _) | (with_reducible refine Kd.C_drew ?_))); (case side2 => exact HC2_0.out); rintro e w19 ⟨rfl, hb⟩; refine ⟨_, rfl, ?_⟩; have n0_ := A_ (blk_below (bz_ BK210.out) hb); have n1_ := A_ (blk_below (bz_ BK211.out) hb); have n2_ := A_ (below_step (by repeat (first | (with_reducible first | exact HB.out | apply b1_ | apply b2_ | apply b3_ | apply c_ GE210 | apply c_ GE211) | exact HB.out)) hb); clear BK210 BK211 HB; have BK210 := n0_; have BK211 := n1_; have HB := n2_; clear n0_ n1_ n2_; (try clear hb); (try clear hb2); (try clear hk); (try clear hi)))
   go_ret
   exact ⟨by first | rfl | (simp [errW_none, errW_some] <;> rfl) | (simp [*, errW_none, errW_some] <;> rfl), by repeat (first | (with_reducible first | exact HB.out | apply b1_ | apply b2_ | apply b3_ | apply c_ GE210 | apply c_ GE211) | exact HB.out)⟩
  ·rw [if_neg c12] at H
   have c12b0 : decide (t213 < 0) = false := decide_eq_false c12
   clear c12
   replace H := Option.bind_eq_some_iff.mp H
   obtain ⟨t214, A200, H⟩ := H
   replace H : ((laws_toBox.f k l2_0).bind fun t217 => ((spec_BoxMeet.f k a0 t214 t217).bind fun bt220 => ((laws_toBox.f k l1_0).bind fun t225 => ((laws_toBox.f k l2_0).bind fun t229 => ((impl_BoxMeet.f k a0 t225 t229).bind fun bt233 => ((laws_eqBox.f k bt233.1 bt220.1).bind fun t238 => (if t238 = true then (laws_FnExactBoxMeet.j0 k a0 bt220.2 bt233.2 (bt233.2 != bt220.2) l1_0 l2_0 bt220.1 t225 t229 bt233.1) else (laws_FnExactBoxMeet.j0 k a0 bt220.2 bt233.2 true l1_0 l2_0 bt220.1 t225 t229 bt233.1)))))))) = some r := H
   have A20 := A_ A200
   clear A200
   replace H := Option.bind_eq_some_iff.mp H
   obtain ⟨t217, A210, H⟩ := H
   replace H : ((spec_BoxMeet.f k a0 t214 t217).bind fun bt220 => ((laws_toBox.f k l1_0).bind fun t225 => ((laws_toBox.f k l2_0).bind fun t229 => ((impl_BoxMeet.f k a0 t225 t229).bind fun bt233 => ((laws_eqBox.f k bt233.1 bt220.1).bind fun t238 => (if t238 = true then (laws_FnExactBoxMeet.j0 k a0 bt220.2 bt233.2 (bt233.2 != bt220.2) l1_0 l2_0 bt220.1 t225 t229 bt233.1) else (laws_FnExactBoxMeet.j0 k a0 bt220.2 bt233.2 true l1_0 l2_0 bt220.1 t225 t229 bt233.1))))))) = some r := H
   have A21 := A_ A210
   clear A210
   replace H := Option.bind_eq_some_iff.mp H
   obtain ⟨⟨t220, t223⟩, A220, H⟩ := H
   replace H : ((laws_toBox.f k l1_0).bind fun t225 => ((laws_toBox.f k l2_0).bind fun t229 => ((impl_BoxMeet.f k a0 t225 t229).bind fun bt233 => ((laws_eqBox.f k bt233.1 t220).bind fun t238 => (if t238 = true then (laws_FnExactBoxMeet.j0 k a0 t223 bt233.2 (bt233.2 != t223) l1_0 l2_0 t220 t225 t229 bt233.1) else (laws_FnExactBoxMeet.j0 k a0 t223 bt233.2 true l1_0 l2_0 t220 t225 t229 bt233.1)))))) = some r := H
   have A22 := A_ A220
   clear A220
   replace H := Option.bind_eq_some_iff.mp H
   obtain ⟨t225, A230, H⟩ := H
   replace H : ((laws_toBox.f k l2_0).bind fun t229 => ((impl_BoxMeet.f k a0 t225 t229).bind fun bt233 => ((laws_eqBox.f k bt233.1 t220).bind fun t238 => (if t238 = true then (laws_FnExactBoxMeet.j0 k a0 t223 bt233.2 (bt233.2 != t223) l1_0 l2_0 t220 t225 t229 bt233.1) else (laws_FnExactBoxMeet.j0 k a0 t223 bt233.2 true l1_0 l2_0 t220 t225 t229 bt233.1))))) = some r := H
   have A23 := A_ A230
   clear A230
   obtain rfl : t214 = t225 := Option.some.inj (A20.out.symm.trans A23.out)
   replace H := Option.bind_eq_some_iff.mp H
   obtain ⟨t229, A240, H⟩ := H
   replace H : ((impl_BoxMeet.f k a0 t214 t229).bind fun bt233 => ((laws_eqBox.f k bt233.1 t220).bind fun t238 => (if t238 = true then (laws_FnExactBoxMeet.j0 k a0 t223 bt233.2 (bt233.2 != t223) l1_0 l2_0 t220 t214 t229 bt233.1) else (laws_FnExactBoxMeet.j0 k a0 t223 bt233.2 true l1_0 l2_0 t220 t214 t229 bt233.1)))) = some r := H
   have A24 := A_ A240
   clear A240
   obtain rfl : t217 = t229 := Option.some.inj (A21.out.symm.trans A24.out)
   replace H := Option.bind_eq_some_iff.mp H
   obtain ⟨⟨t233, t236⟩, A250, H⟩ := H
   replace H : ((laws_eqBox.f k t233 t220).bind fun t238 => (if t238 = true then (laws_FnExactBoxMeet.j0 k a0 t223 t236 (t236 != t223) l1_0 l2_0 t220 t214 t217 t233) else (laws_FnExactBoxMeet.j0 k a0 t223 t236 true l1_0 l2_0 t220 t214 t217 t233))) = some r := H
   have A25 := A_ A250
   clear A250
   have HC26 := A_ H
   clear H
   go_enter Try.func7, Try.ntmps7
   try go_wp2_with (first | ((with_reducible refine gate_dst (N := 4) rfl ?_); refine box_event ?hg (N := 4) ?hd (cs := #[.slice A1_0 l1_0.length c1_0]) (t := 32) ?hr ?_; (case hd => rfl); (case hg => rfl); (case hr => first | (go_simp; done) | (go_simp; rfl)); intro gb210 hg w27 hbox hb; have n0_ := A_ (below_step (by repeat (first | (with_reducible first | exact HB.out | apply b1_ | apply b2_ | apply b3_) | exact HB.out)) hb); have n1_ := A_ (hbox); have n2_ := A_ ((by rw [hg]; exact (below_size (by repeat (first | (with_reducible first | exact HB.out | apply b1_ | apply b2_ | apply b3_) | exact HB.out))) : w.heap.size ≤ gb210)); have n3_ := n2_; clear HB; have HB := n0_; have BK210 := n1_; have GW210 := n2_; have GE210 := n3_; clear n0_ n1_ n2_ n3_; clear hb hbox hg) | ((with_reducible refine gate_dst (N := 5) rfl ?_); refine box_event ?hg (N := 5) ?hd (cs := #[.slice A2_0 l2_0.length c2_0]) (t := 32) ?hr ?_; (case hd => rfl); (case hg => rfl); (case hr => first | (go_simp; done) | (go_simp; rfl)); intro gb211 hg w28 hbox hb; have n0_ := A_ (blk_below (bz_ BK210.out) hb); have n1_ := A_ (below_step (by repeat (first | (with_reducible first | exact HB.out | apply b1_ | apply b2_ | apply b3_ | apply c_ GE210) | exact HB.out)) hb); have n2_ := A_ (hbox); have n3_ := A_ ((by rw [hg]; exact (below_size (by repeat (first | (with_reducible first | exact HB.out | apply b1_ | apply b2_ | apply b3_ | apply c_ GE210) | exact HB.out))) : w.heap.size ≤ gb211)); have n4_ := n3_; have n5_ := A_ ((by rw [hg]; exact Nat.ne_of_lt (blk_lt (bz_ BK210.out)) : gb210 ≠ gb211)); have n6_ := A_ ((by rw [hg]; exact Nat.ne_of_gt (blk_lt (bz_ BK210.out)) : gb211 ≠ gb210)); clear BK210 HB; have BK210 := n0_; have HB := n1_; have BK211 := n2_; have GW211 := n3_; have GE211 := n4_; have NB210_211 := n5_; have NB211_210 := n6_; clear n0_ n1_ n2_ n3_ n4_ n5_ n6_; clear hb hbox hg; have hnb29 := NB210_211.out; have hnc29 := NB211_210.out; have hcz30_0 : w28.cell? ⟨gb210, 0, none⟩ = some (.slice A1_0 l1_0.length c1_0) := (blk_cell BK210.out 0).trans rfl; have hfz30_0 := blk_frozen BK210.out 0) | ((with_reducible refine gate_callee (f := 13) rfl ?_); refine goesL_ (some 21) rfl rfl Try.func13 (by kernel_rfl) rfl #[.agg #[.slice A1_0 l1_0.length c1_0], .int .i64 1048576] rfl (by (try simp only [List.map_toArray, List.map_cons, List.map_nil]); first | done | rfl) ?_; (with_reducible refine (laws_szBox.calls _ _ l1_0 1048576 t212 _ ?side1 ?side2 A4.out).mono ?_); (case side1 => repeat (first | exact (Kd.C_below HR1_0.out HB.out) | (with_reducible refine Kd.C_alloc ?_ _) | (with_reducible refine Kd.C_drewN ?_ _) | (with_reducible refine Kd.C_drew ?_))); (case side2 => exact HC1_0.out); rintro e w31 ⟨rfl, hb⟩; refine ⟨_, rfl, ?_⟩; have n0_ := A_ (blk_below (bz_ BK210.out) hb); have n1_ := A_ (blk_below (bz_ BK211.out) hb); have n2_ := A_ (below_step (by repeat (first | (with_reducible first | exact HB.out | apply b1_ | apply b2_ | apply b3_ | apply c_ GE210 | apply c_ GE211) | exact HB.out)) hb); clear BK210 BK211 HB; have BK210 := n0_; have BK211 := n1_; have HB := n2_; clear n0_ n1_ n2_; (try clear hb); (try clear hb2); (try clear hk); (try clear hi); have hcz32_0 : w31.cell? ⟨gb211, 0, none⟩ = some (.slice A2_0 l2_0.length c2_0) := (blk_cell BK211.out 0).trans rfl; have hfz32_0 := blk_frozen BK211.out 0) | ((with_reducible refine gate_callee (f := 13) rfl ?_); refine goesL_ (some 26) rfl rfl Try.func13 (by kernel_rfl) rfl #[.agg #[.slice A2_0 l2_0.length c2_0], .int .i64 t212] rfl (by (try simp only [List.map_toArray, List.map_cons, List.map_nil]); first | done | rfl) ?_; (with_reducible refine (laws_szBox.calls _ _ l2_0 t212 t213 _ ?side1 ?side2 A11.out).mono ?_); (case side1 => repeat (first | exact (Kd.C_below HR2_0.out HB.out) | (with_reducible refine Kd.C_alloc ?_ _) | (with_reducible refine Kd.C_drewN ?_ _) | (with_reducible refine Kd.C_drew ?_))); (case side2 => exact HC2_0.out); rintro e w33 ⟨rfl, hb⟩; refine ⟨_, rfl, ?_⟩; have n0_ := A_ (blk_below (bz_ BK210.out) hb); have n1_ := A_ (blk_below (bz_ BK211.out) hb); have n2_ := A_ (below_step (by repeat (first | (with_reducible first | exact HB.out | apply b1_ | apply b2_ | apply b3_ | apply c_ GE210 | apply c_ GE211) | exact HB.out)) hb); clear BK210 BK211 HB; have BK210 := n0_; have BK211 := n1_; have HB := n2_; clear n0_ n1_ n2_; (try clear hb); (try clear hb2); (try clear hk); (try clear hi)))
   have n0_ := A_ (blk_drew BK210.out)
   have n1_ := A_ (blk_drew BK211.out)
   have n2_ := A_ (below_drew1 HB.out)
   clear BK210 BK211 HB
   have BK210 := n0_
   have BK211 := n1_
   have HB := n2_
   clear n0_ n1_ n2_
   refine start_ (n := 12) (S := fun w' => w'.cell? ⟨gb210, 0, none⟩ = some (.slice A1_0 l1_0.length c1_0) ∧ w'.cell? ⟨gb211, 0, none⟩ = some (.slice A2_0 l2_0.length c2_0)) (ds := []) #[false, false, false, false, false, false, false, false, false, false, false, false] (by kernel_rfl) rfl rfl ⟨(blk_cell BK210.out 0).trans rfl, (blk_cell BK211.out 0).trans rfl⟩ (fun hHeld => ?_); refine with_tabW laws_FnExactBoxMeet.tab8 laws_FnExactBoxMeet.bits8 (fun HT_ HW_ => ?_)
   generalize w33.drew = w34 at BK210 BK211 HB hHeld ⊢
   refine pure_ (i := 0) (N := some 30) (v := ?_) (a' := ?_) #[true, false, false, false, false, false, false, false, false, false, false, false] rfl rfl (any_of HT_.out (by kernel_rfl)) (fun _ _ _ h => h) (Or.inl ⟨by rfl, ?_⟩) ?_ ?_
   rotate_left
   ·intro w'
    go_simp
    with_reducible rfl
   rotate_left
   ·simp only [Act.put, List.setIfInBounds_toArray, List.set_cons_zero, List.set_cons_succ, i64_w, i32_w]
    rfl
   refine take_ (i := 1) (N := some 31) (v := ?_) (a' := ?_) #[true, true, false, false, false, false, false, false, false, false, false, false] rfl rfl (take_ofW HT_.out HW_.out (by kernel_rfl)) (fun _ _ _ h => h) (Or.inl ⟨by rfl, ?_⟩) hHeld ?_ ?_
   rotate_left
   ·rintro w' ⟨s0, s1⟩
    go_simp
    with_reducible rfl
   rotate_left
   ·simp only [Act.put, List.setIfInBounds_toArray, List.set_cons_zero, List.set_cons_succ, i64_w, i32_w]
    rfl
   refine take_ (i := 3) (N := some 33) (v := ?_) (a' := ?_) #[true, true, false, true, false, false, false, false, false, false, false, false] rfl rfl (take_ofW HT_.out HW_.out (by kernel_rfl)) (fun _ _ _ h => h) (Or.inl ⟨by rfl, ?_⟩) hHeld ?_ ?_
   rotate_left
   ·rintro w' ⟨s0, s1⟩
    go_simp
    with_reducible rfl
   rotate_left
   ·simp only [Act.put, List.setIfInBounds_toArray, List.set_cons_zero, List.set_cons_succ, i64_w, i32_w]
    rfl
   refine join_ (σ := Value × Value × Value × Nat) 2 #[true, true, true, true, true, true, true, true, true, true, false, false] (fun s_ => [(32, .agg #[s_.1]), (34, .agg #[s_.2.1]), (35, .tuple #[.agg #[s_.2.2.1], .bool t223]), (8, .pointer (some ⟨s_.2.2.2, 0, none⟩)), (29, .tuple #[.agg #[s_.2.2.1], .bool t223]), (36, .agg #[s_.2.2.1]), (37, .bool t223)]) (fun s_ w' => (w'.cell? ⟨gb210, 0, none⟩ = some (.slice A1_0 l1_0.length c1_0) ∧ w'.cell? ⟨gb211, 0, none⟩ = some (.slice A2_0 l2_0.length c2_0)) ∧ (Kd.R k64 64 w' w.heap.size (fun k_ => some k_ ≠ (s_.2.1 : Value).ownBlock ∧ some k_ ≠ (s_.2.2.1 : Value).ownBlock) s_.1 t214) ∧ (Kd.R k64 64 w' w.heap.size (fun k_ => some k_ ≠ (s_.1 : Value).ownBlock ∧ some k_ ≠ (s_.2.2.1 : Value).ownBlock) s_.2.1 t217) ∧ (Kd.R k64 64 w' w.heap.size (fun k_ => some k_ ≠ (s_.1 : Value).ownBlock ∧ some k_ ≠ (s_.2.1 : Value).ownBlock) s_.2.2.1 t220) ∧ (w'.heap[gb210]? = some (.cells #[.slice A1_0 l1_0.length c1_0] 32 (0, 0))) ∧ (w'.heap[gb211]? = some (.cells #[.slice A2_0 l2_0.length c2_0] 32 (0, 0))) ∧ (w'.heap[s_.2.2.2]? = some (.cells #[.slice none 0 0] 37 (0, 0))) ∧ (w.heap.size ≤ s_.2.2.2) ∧ (w.heap.size ≤ s_.2.2.2) ∧ (gb210 ≠ s_.2.2.2) ∧ (s_.2.2.2 ≠ gb210) ∧ (gb211 ≠ s_.2.2.2) ∧ (s_.2.2.2 ≠ gb211) ∧ (Below w.heap.size w w')) ?_ ?_
   rotate_left
   ·intro hCont
    refine two_ (i := 2) (j := 9) (Ni := some 32) (Nj := some 8) #[true, true, true, true, false, false, false, false, false, false, false, false] #[true, true, false, true, false, false, false, false, false, true, false, false] rfl rfl rfl rfl (two_of HT_.out (by kernel_rfl)) (by decide) (by decide) (fun K hK => ?_) (fun K hK => ?_)
    ·skip
     refine goes_ Try.func15 (by kernel_rfl) rfl #[.agg #[.slice A1_0 l1_0.length c1_0]] (by rfl) rfl rfl (by (try simp only [List.map_toArray, List.map_cons, List.map_nil]); first | done | rfl) ?_
     with_reducible refine (laws_toBox.calls k _ _ l1_0 t214 _ ?side1 ?side2 A20.out).mono ?_
     (case side1 => repeat (first | exact (Kd.C_below HR1_0.out HB.out) | (with_reducible refine Kd.C_alloc ?_ _) | (with_reducible refine Kd.C_drewN ?_ _) | (with_reducible refine Kd.C_drew ?_)))
     (case side2 => exact HC1_0.out)
     rintro e w35 ⟨v215, rfl, ho0, hb⟩
     refine ⟨_, rfl, ?_⟩
     have n0_ := A_ (Kd.R_lower ho0 (below_size (by repeat (first | (with_reducible first | exact HB.out | apply b1_ | apply b2_ | apply b3_ | apply c_ GE210 | apply c_ GE211) | exact HB.out))))
     have n1_ := A_ (blk_below (bz_ BK210.out) hb)
     have n2_ := A_ (blk_below (bz_ BK211.out) hb)
     have n3_ := A_ (below_step (by repeat (first | (with_reducible first | exact HB.out | apply b1_ | apply b2_ | apply b3_ | apply c_ GE210 | apply c_ GE211) | exact HB.out)) hb)
     clear BK210 BK211 HB
     have HO216 := n0_
     have BK210 := n1_
     have BK211 := n2_
     have HB := n3_
     clear n0_ n1_ n2_ n3_
     (try clear hb)
     (try clear hb2)
     (try clear hk)
     (try clear hi)
     (try clear ho0)
     refine hK.out _ _ ⟨(blk_cell BK210.out 0).trans rfl, (blk_cell BK211.out 0).trans rfl⟩ (fun hHeld => ?_)
     clear hK K
     refine norm_ (a' := ?_) ?_ ?_
     rotate_left
     ·show Act.put _ (some 32) _ = _
      simp only [Act.put, List.setIfInBounds_toArray, List.set_cons_zero, List.set_cons_succ, i64_w, i32_w]
      rfl
     refine two_ (i := 4) (j := 9) (Ni := some 34) (Nj := some 8) #[true, true, true, true, true, false, false, false, false, false, false, false] #[true, true, true, true, false, false, false, false, false, true, false, false] rfl rfl rfl rfl (two_of HT_.out (by kernel_rfl)) (by decide) (by decide) (fun K hK => ?_) (fun K hK => ?_)
     ·skip
      refine goes_ Try.func15 (by kernel_rfl) rfl #[.agg #[.slice A2_0 l2_0.length c2_0]] (by rfl) rfl rfl (by (try simp only [List.map_toArray, List.map_cons, List.map_nil]); first | done | rfl) ?_
      with_reducible refine (laws_toBox.calls k _ _ l2_0 t217 _ ?side1 ?side2 A21.out).mono ?_
      (case side1 => repeat (first | exact (Kd.C_below HR2_0.out HB.out) | (with_reducible refine Kd.C_alloc ?_ _) | (with_reducible refine Kd.C_drewN ?_ _) | (with_reducible refine Kd.C_drew ?_)))
      (case side2 => exact HC2_0.out)
      rintro e w36 ⟨v218, rfl, ho0, hb⟩
      refine ⟨_, rfl, ?_⟩
      have n0_ := A_ (Kd.R_elder' (rz_ HO216.out) (Kd.R_base ho0) hb)
      have n1_ := A_ (Kd.R_lower (Kd.R_new' ho0 (Kd.R_lt (rz_ HO216.out))) (below_size (by repeat (first | (with_reducible first | exact HB.out | apply b1_ | apply b2_ | apply b3_ | apply c_ GE210 | apply c_ GE211) | exact HB.out))))
      have n2_ := A_ (blk_below (bz_ BK210.out) hb)
      have n3_ := A_ (blk_below (bz_ BK211.out) hb)
      have n4_ := A_ (below_step (by repeat (first | (with_reducible first | exact HB.out | apply b1_ | apply b2_ | apply b3_ | apply c_ GE210 | apply c_ GE211) | exact HB.out)) hb)
      clear HO216 BK210
      clear BK211 HB
      have HO216 := n0_
      have HO219 := n1_
      have BK210 := n2_
      have BK211 := n3_
      have HB := n4_
      clear n0_ n1_ n2_ n3_ n4_
      (try clear hb)
      (try clear hb2)
      (try clear hk)
      (try clear hi)
      (try clear ho0)
      obtain ⟨Ao37, co37, eo37⟩ := Kd.R_slice HO216.out
      (first | subst eo37 | (injection eo37 with f1_ f2_ f3_; have f4_ := f1_.symm; have f5_ := f3_.symm; clear f1_ f2_ f3_; subst f4_; subst f5_))
      obtain ⟨Ao38, co38, eo38⟩ := Kd.R_slice HO219.out
      (first | subst eo38 | (injection eo38 with f1_ f2_ f3_; have f4_ := f1_.symm; have f5_ := f3_.symm; clear f1_ f2_ f3_; subst f4_; subst f5_))
      refine hK.out _ _ ⟨(blk_cell BK210.out 0).trans rfl, (blk_cell BK211.out 0).trans rfl⟩ (fun hHeld => ?_)
      clear hK K
      refine norm_ (a' := ?_) ?_ ?_
      rotate_left
      ·show Act.put _ (some 34) _ = _
       simp only [Act.put, List.setIfInBounds_toArray, List.set_cons_zero, List.set_cons_succ, i64_w, i32_w]
       rfl
      refine two_ (i := 5) (j := 9) (Ni := some 35) (Nj := some 8) #[true, true, true, true, true, true, false, false, false, false, false, false] #[true, true, true, true, true, false, false, false, false, true, false, false] rfl rfl rfl rfl (two_of HT_.out (by kernel_rfl)) (by decide) (by decide) (fun K hK => ?_) (fun K hK => ?_)
      ·skip
       refine goes_ Try.func26 (by kernel_rfl) rfl #[.int .i64 a0, .agg #[.slice Ao37 t214.length co37], .agg #[.slice Ao38 t217.length co38]] (by rfl) rfl rfl (by (try simp only [List.map_toArray, List.map_cons, List.map_nil]); first | done | rfl) ?_
       with_reducible refine (spec_BoxMeet.calls k a0 _ _ t214 _ _ t217 t220 t223 _ ?side1 ?side2 ?side3 ?side4 A22.out).mono ?_
       (case side1 => repeat (first | exact (Kd.R_reads' HO216.out).2.2 | (with_reducible refine Kd.C_alloc ?_ _) | (with_reducible refine Kd.C_drewN ?_ _) | (with_reducible refine Kd.C_drew ?_)))
       (case side2 => exact (Kd.R_reads' HO216.out).2.1)
       (case side3 => repeat (first | exact (Kd.R_reads' HO219.out).2.2 | (with_reducible refine Kd.C_alloc ?_ _) | (with_reducible refine Kd.C_drewN ?_ _) | (with_reducible refine Kd.C_drew ?_)))
       (case side4 => exact (Kd.R_reads' HO219.out).2.1)
       rintro e w39 ⟨v221, rfl, ho0, hb⟩
       refine ⟨_, rfl, ?_⟩
       have n0_ := A_ (Kd.R_elder' (rz_ HO216.out) (Kd.R_base ho0) hb)
       have n1_ := A_ (Kd.R_elder' (rz_ HO219.out) (Kd.R_base ho0) hb)
       have n2_ := A_ (Kd.R_lower (Kd.R_new' (Kd.R_new' ho0 (Kd.R_lt (rz_ HO216.out))) (Kd.R_lt (rz_ HO219.out))) (below_size (by repeat (first | (with_reducible first | exact HB.out | apply b1_ | apply b2_ | apply b3_ | apply c_ GE210 | apply c_ GE211) | exact HB.out))))
       have n3_ := A_ (blk_below (bz_ BK210.out) hb)
       have n4_ := A_ (blk_below (bz_ BK211.out) hb)
       have n5_ := A_ (below_step (by repeat (first | (with_reducible first | exact HB.out | apply b1_ | apply b2_ | apply b3_ | apply c_ GE210 | apply c_ GE211) | exact HB.out)) hb)
       clear HO216 HO219
       clear BK210 BK211 HB
       have HO216 := n0_
       have HO219 := n1_
       have HO222 := n2_
       have BK210 := n3_
       have BK211 := n4_
       have HB := n5_
       clear n0_ n1_ n2_ n3_ n4_ n5_
       (try clear hb)
       (try clear hb2)
       (try clear hk)
       (try clear hi)
       (try clear ho0)
       refine hK.out _ _ ⟨(blk_cell BK210.out 0).trans rfl, (blk_cell BK211.out 0).trans rfl⟩ (fun hHeld => ?_)
       clear hK K
       refine norm_ (a' := ?_) ?_ ?_
       rotate_left
       ·show Act.put _ (some 35) _ = _
        simp only [Act.put, List.setIfInBounds_toArray, List.set_cons_zero, List.set_cons_succ, i64_w, i32_w]
        rfl
       refine pure_ (i := 6) (N := some 29) (v := ?_) (a' := ?_) #[true, true, true, true, true, true, true, false, false, false, false, false] rfl rfl (any_of HT_.out (by kernel_rfl)) (fun _ _ _ h => h) (Or.inl ⟨by rfl, ?_⟩) ?_ ?_
       rotate_left
       ·intro w'
        go_simp
        with_reducible rfl
       rotate_left
       ·simp only [Act.put, List.setIfInBounds_toArray, List.set_cons_zero, List.set_cons_succ, i64_w, i32_w]
        rfl
       refine pure_ (i := 7) (N := some 36) (v := ?_) (a' := ?_) #[true, true, true, true, true, true, true, true, false, false, false, false] rfl rfl (any_of HT_.out (by kernel_rfl)) (fun _ _ _ h => h) (Or.inl ⟨by rfl, ?_⟩) ?_ ?_
       rotate_left
       ·intro w'
        go_simp
        with_reducible rfl
       rotate_left
       ·simp only [Act.put, List.setIfInBounds_toArray, List.set_cons_zero, List.set_cons_succ, i64_w, i32_w]
        rfl
       refine pure_ (i := 8) (N := some 37) (v := ?_) (a' := ?_) #[true, true, true, true, true, true, true, true, true, false, false, false] rfl rfl (any_of HT_.out (by kernel_rfl)) (fun _ _ _ h => h) (Or.inl ⟨by rfl, ?_⟩) ?_ ?_
       rotate_left
       ·intro w'
        go_simp
        with_reducible rfl
       rotate_left
       ·simp only [Act.put, List.setIfInBounds_toArray, List.set_cons_zero, List.set_cons_succ, i64_w, i32_w]
        rfl
       refine one_ (i := 9) (N := some 8) #[true, true, true, true, true, true, true, true, true, true, false, false] rfl rfl (one_of HT_.out (by kernel_rfl)) (by decide) (fun K hK => ?_)
       refine box_step ?hg (N := 8) ?hd (cs := #[.slice none 0 0]) (t := 37) ?hr ?_; (case hd => rfl); (case hg => rfl); (case hr => first | (go_simp; done) | (go_simp; rfl))
       intro gb224 hg w40 hbox hb
       have n0_ := A_ (Kd.R_below (rz_ HO216.out) hb)
       have n1_ := A_ (Kd.R_below (rz_ HO219.out) hb)
       have n2_ := A_ (Kd.R_below (rz_ HO222.out) hb)
       have n3_ := A_ (blk_below (bz_ BK210.out) hb)
       have n4_ := A_ (blk_below (bz_ BK211.out) hb)
       have n5_ := A_ (below_step (by repeat (first | (with_reducible first | exact HB.out | apply b1_ | apply b2_ | apply b3_ | apply c_ GE210 | apply c_ GE211) | exact HB.out)) hb)
       have n6_ := A_ (hbox)
       have n7_ := A_ ((by rw [hg]; exact (below_size (by repeat (first | (with_reducible first | exact HB.out | apply b1_ | apply b2_ | apply b3_ | apply c_ GE210 | apply c_ GE211) | exact HB.out))) : w.heap.size ≤ gb224))
       have n8_ := n7_
       have n9_ := A_ ((by rw [hg]; exact Nat.ne_of_lt (blk_lt (bz_ BK210.out)) : gb210 ≠ gb224))
       have n10_ := A_ ((by rw [hg]; exact Nat.ne_of_gt (blk_lt (bz_ BK210.out)) : gb224 ≠ gb210))
       have n11_ := A_ ((by rw [hg]; exact Nat.ne_of_lt (blk_lt (bz_ BK211.out)) : gb211 ≠ gb224))
       have n12_ := A_ ((by rw [hg]; exact Nat.ne_of_gt (blk_lt (bz_ BK211.out)) : gb224 ≠ gb211))
       clear HO216 HO219
       clear HO222 BK210
       clear BK211 HB
       have HO216 := n0_
       have HO219 := n1_
       have HO222 := n2_
       have BK210 := n3_
       have BK211 := n4_
       have HB := n5_
       have BK224 := n6_
       have GW224 := n7_
       have GE224 := n8_
       have NB210_224 := n9_
       have NB224_210 := n10_
       have NB211_224 := n11_
       have NB224_211 := n12_
       clear n0_ n1_ n2_ n3_ n4_ n5_ n6_ n7_ n8_ n9_ n10_ n11_ n12_
       clear hb hbox hg
       refine hK.out _ _ ⟨(blk_cell BK210.out 0).trans rfl, (blk_cell BK211.out 0).trans rfl⟩ (fun hHeld => ?_)
       clear hK K
       refine norm_ (a' := ?_) ?_ ?_
       rotate_left
       ·show Act.put _ (some 8) _ = _
        simp only [Act.put, List.setIfInBounds_toArray, List.set_cons_zero, List.set_cons_succ, i64_w, i32_w]
        rfl
       exact norm_ (by simp only [putAll, Act.put, List.setIfInBounds_toArray, List.set_cons_zero, List.set_cons_succ]) (hCont (.slice Ao37 t214.length co37, .slice Ao38 t217.length co38, v221, gb224) _ ⟨hHeld, (rz_ (Kd.R_mono HO216.out (fun _ hk => ⟨hk.1.2, hk.2⟩))), (rz_ (Kd.R_mono HO219.out (fun _ hk => ⟨hk.1.2, hk.2⟩))), (rz_ (Kd.R_mono HO222.out (fun _ hk => ⟨hk.1.2, hk.2⟩))), (bz_ BK210.out), (bz_ BK211.out), (bz_ BK224.out), GW224.out, GE224.out, NB210_224.out, NB224_210.out, NB211_224.out, NB224_211.out, (by repeat (first | (with_reducible first | exact HB.out | apply b1_ | apply b2_ | apply b3_ | apply c_ GE210 | apply c_ GE211 | apply c_ GE224) | exact HB.out))⟩)
      ·skip
       refine box_step ?hg (N := 8) ?hd (cs := #[.slice none 0 0]) (t := 37) ?hr ?_; (case hd => rfl); (case hg => rfl); (case hr => first | (go_simp; done) | (go_simp; rfl))
       intro gb224 hg w37 hbox hb
       have n0_ := A_ (Kd.R_below (rz_ HO216.out) hb)
       have n1_ := A_ (Kd.R_below (rz_ HO219.out) hb)
       have n2_ := A_ (blk_below (bz_ BK210.out) hb)
       have n3_ := A_ (blk_below (bz_ BK211.out) hb)
       have n4_ := A_ (below_step (by repeat (first | (with_reducible first | exact HB.out | apply b1_ | apply b2_ | apply b3_ | apply c_ GE210 | apply c_ GE211) | exact HB.out)) hb)
       have n5_ := A_ (hbox)
       have n6_ := A_ ((by rw [hg]; exact (below_size (by repeat (first | (with_reducible first | exact HB.out | apply b1_ | apply b2_ | apply b3_ | apply c_ GE210 | apply c_ GE211) | exact HB.out))) : w.heap.size ≤ gb224))
       have n7_ := n6_
       have n8_ := A_ ((by rw [hg]; exact Nat.ne_of_lt (blk_lt (bz_ BK210.out)) : gb210 ≠ gb224))
       have n9_ := A_ ((by rw [hg]; exact Nat.ne_of_gt (blk_lt (bz_ BK210.out)) : gb224 ≠ gb210))
       have n10_ := A_ ((by rw [hg]; exact Nat.ne_of_lt (blk_lt (bz_ BK211.out)) : gb211 ≠ gb224))
       have n11_ := A_ ((by rw [hg]; exact Nat.ne_of_gt (blk_lt (bz_ BK211.out)) : gb224 ≠ gb211))
       clear HO216 HO219
       clear BK210 BK211 HB
       have HO216 := n0_
       have HO219 := n1_
       have BK210 := n2_
       have BK211 := n3_
       have HB := n4_
       have BK224 := n5_
       have GW224 := n6_
       have GE224 := n7_
       have NB210_224 := n8_
       have NB224_210 := n9_
       have NB211_224 := n10_
       have NB224_211 := n11_
       clear n0_ n1_ n2_ n3_ n4_ n5_ n6_ n7_ n8_ n9_ n10_ n11_
       clear hb hbox hg
       obtain ⟨Ao38, co38, eo38⟩ := Kd.R_slice HO216.out
       (first | subst eo38 | (injection eo38 with f1_ f2_ f3_; have f4_ := f1_.symm; have f5_ := f3_.symm; clear f1_ f2_ f3_; subst f4_; subst f5_))
       obtain ⟨Ao39, co39, eo39⟩ := Kd.R_slice HO219.out
       (first | subst eo39 | (injection eo39 with f1_ f2_ f3_; have f4_ := f1_.symm; have f5_ := f3_.symm; clear f1_ f2_ f3_; subst f4_; subst f5_))
       refine hK.out _ _ ⟨(blk_cell BK210.out 0).trans rfl, (blk_cell BK211.out 0).trans rfl⟩ (fun hHeld => ?_)
       clear hK K
       refine norm_ (a' := ?_) ?_ ?_
       rotate_left
       ·show Act.put _ (some 8) _ = _
        simp only [Act.put, List.setIfInBounds_toArray, List.set_cons_zero, List.set_cons_succ, i64_w, i32_w]
        rfl
       refine one_ (i := 5) (N := some 35) #[true, true, true, true, true, true, false, false, false, true, false, false] rfl rfl (one_of HT_.out (by kernel_rfl)) (by decide) (fun K hK => ?_)
       refine goes_ Try.func26 (by kernel_rfl) rfl #[.int .i64 a0, .agg #[.slice Ao38 t214.length co38], .agg #[.slice Ao39 t217.length co39]] (by rfl) rfl rfl (by (try simp only [List.map_toArray, List.map_cons, List.map_nil]); first | done | rfl) ?_
       with_reducible refine (spec_BoxMeet.calls k a0 _ _ t214 _ _ t217 t220 t223 _ ?side1 ?side2 ?side3 ?side4 A22.out).mono ?_
       (case side1 => repeat (first | exact (Kd.R_reads' HO216.out).2.2 | (with_reducible refine Kd.C_alloc ?_ _) | (with_reducible refine Kd.C_drewN ?_ _) | (with_reducible refine Kd.C_drew ?_)))
       (case side2 => exact (Kd.R_reads' HO216.out).2.1)
       (case side3 => repeat (first | exact (Kd.R_reads' HO219.out).2.2 | (with_reducible refine Kd.C_alloc ?_ _) | (with_reducible refine Kd.C_drewN ?_ _) | (with_reducible refine Kd.C_drew ?_)))
       (case side4 => exact (Kd.R_reads' HO219.out).2.1)
       rintro e w40 ⟨v221, rfl, ho0, hb⟩
       refine ⟨_, rfl, ?_⟩
       have n0_ := A_ (Kd.R_elder' (rz_ HO216.out) (Kd.R_base ho0) hb)
       have n1_ := A_ (Kd.R_elder' (rz_ HO219.out) (Kd.R_base ho0) hb)
       have n2_ := A_ (Kd.R_lower (Kd.R_new' (Kd.R_new' ho0 (Kd.R_lt (rz_ HO216.out))) (Kd.R_lt (rz_ HO219.out))) (below_size (by repeat (first | (with_reducible first | exact HB.out | apply b1_ | apply b2_ | apply b3_ | apply c_ GE210 | apply c_ GE211 | apply c_ GE224) | exact HB.out))))
       have n3_ := A_ (blk_below (bz_ BK210.out) hb)
       have n4_ := A_ (blk_below (bz_ BK211.out) hb)
       have n5_ := A_ (blk_below (bz_ BK224.out) hb)
       have n6_ := A_ (below_step (by repeat (first | (with_reducible first | exact HB.out | apply b1_ | apply b2_ | apply b3_ | apply c_ GE210 | apply c_ GE211 | apply c_ GE224) | exact HB.out)) hb)
       clear HO216 HO219
       clear BK210 BK211
       clear BK224 HB
       have HO216 := n0_
       have HO219 := n1_
       have HO222 := n2_
       have BK210 := n3_
       have BK211 := n4_
       have BK224 := n5_
       have HB := n6_
       clear n0_ n1_ n2_ n3_ n4_ n5_ n6_
       (try clear hb)
       (try clear hb2)
       (try clear hk)
       (try clear hi)
       (try clear ho0)
       refine hK.out _ _ ⟨(blk_cell BK210.out 0).trans rfl, (blk_cell BK211.out 0).trans rfl⟩ (fun hHeld => ?_)
       clear hK K
       refine norm_ (a' := ?_) ?_ ?_
       rotate_left
       ·show Act.put _ (some 35) _ = _
        simp only [Act.put, List.setIfInBounds_toArray, List.set_cons_zero, List.set_cons_succ, i64_w, i32_w]
        rfl
       refine pure_ (i := 6) (N := some 29) (v := ?_) (a' := ?_) #[true, true, true, true, true, true, true, false, false, true, false, false] rfl rfl (any_of HT_.out (by kernel_rfl)) (fun _ _ _ h => h) (Or.inl ⟨by rfl, ?_⟩) ?_ ?_
       rotate_left
       ·intro w'
        go_simp
        with_reducible rfl
       rotate_left
       ·simp only [Act.put, List.setIfInBounds_toArray, List.set_cons_zero, List.set_cons_succ, i64_w, i32_w]
        rfl
       refine pure_ (i := 7) (N := some 36) (v := ?_) (a' := ?_) #[true, true, true, true, true, true, true, true, false, true, false, false] rfl rfl (any_of HT_.out (by kernel_rfl)) (fun _ _ _ h => h) (Or.inl ⟨by rfl, ?_⟩) ?_ ?_
       rotate_left
       ·intro w'
        go_simp
        with_reducible rfl
       rotate_left
       ·simp only [Act.put, List.setIfInBounds_toArray, List.set_cons_zero, List.set_cons_succ, i64_w, i32_w]
        rfl
       refine pure_ (i := 8) (N := some 37) (v := ?_) (a' := ?_) #[true, true, true, true, true, true, true, true, true, true, false, false] rfl rfl (any_of HT_.out (by kernel_rfl)) (fun _ _ _ h => h) (Or.inl ⟨by rfl, ?_⟩) ?_ ?_
       rotate_left
       ·intro w'
        go_simp
        with_reducible rfl
       rotate_left
       ·simp only [Act.put, List.setIfInBounds_toArray, List.set_cons_zero, List.set_cons_succ, i64_w, i32_w]
        rfl
       exact norm_ (by simp only [putAll, Act.put, List.setIfInBounds_toArray, List.set_cons_zero, List.set_cons_succ]) (hCont (.slice Ao38 t214.length co38, .slice Ao39 t217.length co39, v221, gb224) _ ⟨hHeld, (rz_ (Kd.R_mono HO216.out (fun _ hk => ⟨hk.1.2, hk.2⟩))), (rz_ (Kd.R_mono HO219.out (fun _ hk => ⟨hk.1.2, hk.2⟩))), (rz_ (Kd.R_mono HO222.out (fun _ hk => ⟨hk.1.2, hk.2⟩))), (bz_ BK210.out), (bz_ BK211.out), (bz_ BK224.out), GW224.out, GE224.out, NB210_224.out, NB224_210.out, NB211_224.out, NB224_211.out, (by repeat (first | (with_reducible first | exact HB.out | apply b1_ | apply b2_ | apply b3_ | apply c_ GE210 | apply c_ GE211 | apply c_ GE224) | exact HB.out))⟩)
     ·skip
      refine box_step ?hg (N := 8) ?hd (cs := #[.slice none 0 0]) (t := 37) ?hr ?_; (case hd => rfl); (case hg => rfl); (case hr => first | (go_simp; done) | (go_simp; rfl))
      intro gb224 hg w36 hbox hb
      have n0_ := A_ (Kd.R_below (rz_ HO216.out) hb)
      have n1_ := A_ (blk_below (bz_ BK210.out) hb)
      have n2_ := A_ (blk_below (bz_ BK211.out) hb)
      have n3_ := A_ (below_step (by repeat (first | (with_reducible first | exact HB.out | apply b1_ | apply b2_ | apply b3_ | apply c_ GE210 | apply c_ GE211) | exact HB.out)) hb)
      have n4_ := A_ (hbox)
      have n5_ := A_ ((by rw [hg]; exact (below_size (by repeat (first | (with_reducible first | exact HB.out | apply b1_ | apply b2_ | apply b3_ | apply c_ GE210 | apply c_ GE211) | exact HB.out))) : w.heap.size ≤ gb224))
      have n6_ := n5_
      have n7_ := A_ ((by rw [hg]; exact Nat.ne_of_lt (blk_lt (bz_ BK210.out)) : gb210 ≠ gb224))
      have n8_ := A_ ((by rw [hg]; exact Nat.ne_of_gt (blk_lt (bz_ BK210.out)) : gb224 ≠ gb210))
      have n9_ := A_ ((by rw [hg]; exact Nat.ne_of_lt (blk_lt (bz_ BK211.out)) : gb211 ≠ gb224))
      have n10_ := A_ ((by rw [hg]; exact Nat.ne_of_gt (blk_lt (bz_ BK211.out)) : gb224 ≠ gb211))
      clear HO216 BK210
      clear BK211 HB
      have HO216 := n0_
      have BK210 := n1_
      have BK211 := n2_
      have HB := n3_
      have BK224 := n4_
      have GW224 := n5_
      have GE224 := n6_
      have NB210_224 := n7_
      have NB224_210 := n8_
      have NB211_224 := n9_
      have NB224_211 := n10_
      clear n0_ n1_ n2_ n3_ n4_ n5_ n6_ n7_ n8_ n9_ n10_
      clear hb hbox hg
      refine hK.out _ _ ⟨(blk_cell BK210.out 0).trans rfl, (blk_cell BK211.out 0).trans rfl⟩ (fun hHeld => ?_)
      clear hK K
      refine norm_ (a' := ?_) ?_ ?_
      rotate_left
      ·show Act.put _ (some 8) _ = _
       simp only [Act.put, List.setIfInBounds_toArray, List.set_cons_zero, List.set_cons_succ, i64_w, i32_w]
       rfl
      refine one_ (i := 4) (N := some 34) #[true, true, true, true, true, false, false, false, false, true, false, false] rfl rfl (one_of HT_.out (by kernel_rfl)) (by decide) (fun K hK => ?_)
      refine goes_ Try.func15 (by kernel_rfl) rfl #[.agg #[.slice A2_0 l2_0.length c2_0]] (by rfl) rfl rfl (by (try simp only [List.map_toArray, List.map_cons, List.map_nil]); first | done | rfl) ?_
      with_reducible refine (laws_toBox.calls k _ _ l2_0 t217 _ ?side1 ?side2 A21.out).mono ?_
      (case side1 => repeat (first | exact (Kd.C_below HR2_0.out HB.out) | (with_reducible refine Kd.C_alloc ?_ _) | (with_reducible refine Kd.C_drewN ?_ _) | (with_reducible refine Kd.C_drew ?_)))
      (case side2 => exact HC2_0.out)
      rintro e w37 ⟨v218, rfl, ho0, hb⟩
      refine ⟨_, rfl, ?_⟩
      have n0_ := A_ (Kd.R_elder' (rz_ HO216.out) (Kd.R_base ho0) hb)
      have n1_ := A_ (Kd.R_lower (Kd.R_new' ho0 (Kd.R_lt (rz_ HO216.out))) (below_size (by repeat (first | (with_reducible first | exact HB.out | apply b1_ | apply b2_ | apply b3_ | apply c_ GE210 | apply c_ GE211 | apply c_ GE224) | exact HB.out))))
      have n2_ := A_ (blk_below (bz_ BK210.out) hb)
      have n3_ := A_ (blk_below (bz_ BK211.out) hb)
      have n4_ := A_ (blk_below (bz_ BK224.out) hb)
      have n5_ := A_ (below_step (by repeat (first | (with_reducible first | exact HB.out | apply b1_ | apply b2_ | apply b3_ | apply c_ GE210 | apply c_ GE211 | apply c_ GE224) | exact HB.out)) hb)
      clear HO216 BK210
      clear BK211 BK224 HB
      have HO216 := n0_
      have HO219 := n1_
      have BK210 := n2_
      have BK211 := n3_
      have BK224 := n4_
      have HB := n5_
      clear n0_ n1_ n2_ n3_ n4_ n5_
      (try clear hb)
      (try clear hb2)
      (try clear hk)
      (try clear hi)
      (try clear ho0)
      obtain ⟨Ao38, co38, eo38⟩ := Kd.R_slice HO216.out
      (first | subst eo38 | (injection eo38 with f1_ f2_ f3_; have f4_ := f1_.symm; have f5_ := f3_.symm; clear f1_ f2_ f3_; subst f4_; subst f5_))
      obtain ⟨Ao39, co39, eo39⟩ := Kd.R_slice HO219.out
      (first | subst eo39 | (injection eo39 with f1_ f2_ f3_; have f4_ := f1_.symm; have f5_ := f3_.symm; clear f1_ f2_ f3_; subst f4_; subst f5_))
      refine hK.out _ _ ⟨(blk_cell BK210.out 0).trans rfl, (blk_cell BK211.out 0).trans rfl⟩ (fun hHeld => ?_)
      clear hK K
      refine norm_ (a' := ?_) ?_ ?_
      rotate_left
      ·show Act.put _ (some 34) _ = _
       simp only [Act.put, List.setIfInBounds_toArray, List.set_cons_zero, List.set_cons_succ, i64_w, i32_w]
       rfl
      refine one_ (i := 5) (N := some 35) #[true, true, true, true, true, true, false, false, false, true, false, false] rfl rfl (one_of HT_.out (by kernel_rfl)) (by decide) (fun K hK => ?_)
      refine goes_ Try.func26 (by kernel_rfl) rfl #[.int .i64 a0, .agg #[.slice Ao38 t214.length co38], .agg #[.slice Ao39 t217.length co39]] (by rfl) rfl rfl (by (try simp only [List.map_toArray, List.map_cons, List.map_nil]); first | done | rfl) ?_
      with_reducible refine (spec_BoxMeet.calls k a0 _ _ t214 _ _ t217 t220 t223 _ ?side1 ?side2 ?side3 ?side4 A22.out).mono ?_
      (case side1 => repeat (first | exact (Kd.R_reads' HO216.out).2.2 | (with_reducible refine Kd.C_alloc ?_ _) | (with_reducible refine Kd.C_drewN ?_ _) | (with_reducible refine Kd.C_drew ?_)))
      (case side2 => exact (Kd.R_reads' HO216.out).2.1)
      (case side3 => repeat (first | exact (Kd.R_reads' HO219.out).2.2 | (with_reducible refine Kd.C_alloc ?_ _) | (with_reducible refine Kd.C_drewN ?_ _) | (with_reducible refine Kd.C_drew ?_)))
      (case side4 => exact (Kd.R_reads' HO219.out).2.1)
      rintro e w40 ⟨v221, rfl, ho0, hb⟩
      refine ⟨_, rfl, ?_⟩
      have n0_ := A_ (Kd.R_elder' (rz_ HO216.out) (Kd.R_base ho0) hb)
      have n1_ := A_ (Kd.R_elder' (rz_ HO219.out) (Kd.R_base ho0) hb)
      have n2_ := A_ (Kd.R_lower (Kd.R_new' (Kd.R_new' ho0 (Kd.R_lt (rz_ HO216.out))) (Kd.R_lt (rz_ HO219.out))) (below_size (by repeat (first | (with_reducible first | exact HB.out | apply b1_ | apply b2_ | apply b3_ | apply c_ GE210 | apply c_ GE211 | apply c_ GE224) | exact HB.out))))
      have n3_ := A_ (blk_below (bz_ BK210.out) hb)
      have n4_ := A_ (blk_below (bz_ BK211.out) hb)
      have n5_ := A_ (blk_below (bz_ BK224.out) hb)
      have n6_ := A_ (below_step (by repeat (first | (with_reducible first | exact HB.out | apply b1_ | apply b2_ | apply b3_ | apply c_ GE210 | apply c_ GE211 | apply c_ GE224) | exact HB.out)) hb)
      clear HO216 HO219
      clear BK210 BK211
      clear BK224 HB
      have HO216 := n0_
      have HO219 := n1_
      have HO222 := n2_
      have BK210 := n3_
      have BK211 := n4_
      have BK224 := n5_
      have HB := n6_
      clear n0_ n1_ n2_ n3_ n4_ n5_ n6_
      (try clear hb)
      (try clear hb2)
      (try clear hk)
      (try clear hi)
      (try clear ho0)
      refine hK.out _ _ ⟨(blk_cell BK210.out 0).trans rfl, (blk_cell BK211.out 0).trans rfl⟩ (fun hHeld => ?_)
      clear hK K
      refine norm_ (a' := ?_) ?_ ?_
      rotate_left
      ·show Act.put _ (some 35) _ = _
       simp only [Act.put, List.setIfInBounds_toArray, List.set_cons_zero, List.set_cons_succ, i64_w, i32_w]
       rfl
      refine pure_ (i := 6) (N := some 29) (v := ?_) (a' := ?_) #[true, true, true, true, true, true, true, false, false, true, false, false] rfl rfl (any_of HT_.out (by kernel_rfl)) (fun _ _ _ h => h) (Or.inl ⟨by rfl, ?_⟩) ?_ ?_
      rotate_left
      ·intro w'
       go_simp
       with_reducible rfl
      rotate_left
      ·simp only [Act.put, List.setIfInBounds_toArray, List.set_cons_zero, List.set_cons_succ, i64_w, i32_w]
       rfl
      refine pure_ (i := 7) (N := some 36) (v := ?_) (a' := ?_) #[true, true, true, true, true, true, true, true, false, true, false, false] rfl rfl (any_of HT_.out (by kernel_rfl)) (fun _ _ _ h => h) (Or.inl ⟨by rfl, ?_⟩) ?_ ?_
      rotate_left
      ·intro w'
       go_simp
       with_reducible rfl
      rotate_left
      ·simp only [Act.put, List.setIfInBounds_toArray, List.set_cons_zero, List.set_cons_succ, i64_w, i32_w]
       rfl
      refine pure_ (i := 8) (N := some 37) (v := ?_) (a' := ?_) #[true, true, true, true, true, true, true, true, true, true, false, false] rfl rfl (any_of HT_.out (by kernel_rfl)) (fun _ _ _ h => h) (Or.inl ⟨by rfl, ?_⟩) ?_ ?_
      rotate_left
      ·intro w'
       go_simp
       with_reducible rfl
      rotate_left
      ·simp only [Act.put, List.setIfInBounds_toArray, List.set_cons_zero, List.set_cons_succ, i64_w, i32_w]
       rfl
      exact norm_ (by simp only [putAll, Act.put, List.setIfInBounds_toArray, List.set_cons_zero, List.set_cons_succ]) (hCont (.slice Ao38 t214.length co38, .slice Ao39 t217.length co39, v221, gb224) _ ⟨hHeld, (rz_ (Kd.R_mono HO216.out (fun _ hk => ⟨hk.1.2, hk.2⟩))), (rz_ (Kd.R_mono HO219.out (fun _ hk => ⟨hk.1.2, hk.2⟩))), (rz_ (Kd.R_mono HO222.out (fun _ hk => ⟨hk.1.2, hk.2⟩))), (bz_ BK210.out), (bz_ BK211.out), (bz_ BK224.out), GW224.out, GE224.out, NB210_224.out, NB224_210.out, NB211_224.out, NB224_211.out, (by repeat (first | (with_reducible first | exact HB.out | apply b1_ | apply b2_ | apply b3_ | apply c_ GE210 | apply c_ GE211 | apply c_ GE224) | exact HB.out))⟩)
    ·skip
     refine box_step ?hg (N := 8) ?hd (cs := #[.slice none 0 0]) (t := 37) ?hr ?_; (case hd => rfl); (case hg => rfl); (case hr => first | (go_simp; done) | (go_simp; rfl))
     intro gb224 hg w35 hbox hb
     have n0_ := A_ (blk_below (bz_ BK210.out) hb)
     have n1_ := A_ (blk_below (bz_ BK211.out) hb)
     have n2_ := A_ (below_step (by repeat (first | (with_reducible first | exact HB.out | apply b1_ | apply b2_ | apply b3_ | apply c_ GE210 | apply c_ GE211) | exact HB.out)) hb)
     have n3_ := A_ (hbox)
     have n4_ := A_ ((by rw [hg]; exact (below_size (by repeat (first | (with_reducible first | exact HB.out | apply b1_ | apply b2_ | apply b3_ | apply c_ GE210 | apply c_ GE211) | exact HB.out))) : w.heap.size ≤ gb224))
     have n5_ := n4_
     have n6_ := A_ ((by rw [hg]; exact Nat.ne_of_lt (blk_lt (bz_ BK210.out)) : gb210 ≠ gb224))
     have n7_ := A_ ((by rw [hg]; exact Nat.ne_of_gt (blk_lt (bz_ BK210.out)) : gb224 ≠ gb210))
     have n8_ := A_ ((by rw [hg]; exact Nat.ne_of_lt (blk_lt (bz_ BK211.out)) : gb211 ≠ gb224))
     have n9_ := A_ ((by rw [hg]; exact Nat.ne_of_gt (blk_lt (bz_ BK211.out)) : gb224 ≠ gb211))
     clear BK210 BK211 HB
     have BK210 := n0_
     have BK211 := n1_
     have HB := n2_
     have BK224 := n3_
     have GW224 := n4_
     have GE224 := n5_
     have NB210_224 := n6_
     have NB224_210 := n7_
     have NB211_224 := n8_
     have NB224_211 := n9_
     clear n0_ n1_ n2_ n3_ n4_ n5_ n6_ n7_ n8_ n9_
     clear hb hbox hg
     refine hK.out _ _ ⟨(blk_cell BK210.out 0).trans rfl, (blk_cell BK211.out 0).trans rfl⟩ (fun hHeld => ?_)
     clear hK K
     refine norm_ (a' := ?_) ?_ ?_
     rotate_left
     ·show Act.put _ (some 8) _ = _
      simp only [Act.put, List.setIfInBounds_toArray, List.set_cons_zero, List.set_cons_succ, i64_w, i32_w]
      rfl
     refine one_ (i := 2) (N := some 32) #[true, true, true, true, false, false, false, false, false, true, false, false] rfl rfl (one_of HT_.out (by kernel_rfl)) (by decide) (fun K hK => ?_)
     refine goes_ Try.func15 (by kernel_rfl) rfl #[.agg #[.slice A1_0 l1_0.length c1_0]] (by rfl) rfl rfl (by (try simp only [List.map_toArray, List.map_cons, List.map_nil]); first | done | rfl) ?_
     with_reducible refine (laws_toBox.calls k _ _ l1_0 t214 _ ?side1 ?side2 A20.out).mono ?_
     (case side1 => repeat (first | exact (Kd.C_below HR1_0.out HB.out) | (with_reducible refine Kd.C_alloc ?_ _) | (with_reducible refine Kd.C_drewN ?_ _) | (with_reducible refine Kd.C_drew ?_)))
     (case side2 => exact HC1_0.out)
     rintro e w36 ⟨v215, rfl, ho0, hb⟩
     refine ⟨_, rfl, ?_⟩
     have n0_ := A_ (Kd.R_lower ho0 (below_size (by repeat (first | (with_reducible first | exact HB.out | apply b1_ | apply b2_ | apply b3_ | apply c_ GE210 | apply c_ GE211 | apply c_ GE224) | exact HB.out))))
     have n1_ := A_ (blk_below (bz_ BK210.out) hb)
     have n2_ := A_ (blk_below (bz_ BK211.out) hb)
     have n3_ := A_ (blk_below (bz_ BK224.out) hb)
     have n4_ := A_ (below_step (by repeat (first | (with_reducible first | exact HB.out | apply b1_ | apply b2_ | apply b3_ | apply c_ GE210 | apply c_ GE211 | apply c_ GE224) | exact HB.out)) hb)
     clear BK210 BK211
     clear BK224 HB
     have HO216 := n0_
     have BK210 := n1_
     have BK211 := n2_
     have BK224 := n3_
     have HB := n4_
     clear n0_ n1_ n2_ n3_ n4_
     (try clear hb)
     (try clear hb2)
     (try clear hk)
     (try clear hi)
     (try clear ho0)
     refine hK.out _ _ ⟨(blk_cell BK210.out 0).trans rfl, (blk_cell BK211.out 0).trans rfl⟩ (fun hHeld => ?_)
     clear hK K
     refine norm_ (a' := ?_) ?_ ?_
     rotate_left
     ·show Act.put _ (some 32) _ = _
      simp only [Act.put, List.setIfInBounds_toArray, List.set_cons_zero, List.set_cons_succ, i64_w, i32_w]
      rfl
     refine one_ (i := 4) (N := some 34) #[true, true, true, true, true, false, false, false, false, true, false, false] rfl rfl (one_of HT_.out (by kernel_rfl)) (by decide) (fun K hK => ?_)
     refine goes_ Try.func15 (by kernel_rfl) rfl #[.agg #[.slice A2_0 l2_0.length c2_0]] (by rfl) rfl rfl (by (try simp only [List.map_toArray, List.map_cons, List.map_nil]); first | done | rfl) ?_
     with_reducible refine (laws_toBox.calls k _ _ l2_0 t217 _ ?side1 ?side2 A21.out).mono ?_
     (case side1 => repeat (first | exact (Kd.C_below HR2_0.out HB.out) | (with_reducible refine Kd.C_alloc ?_ _) | (with_reducible refine Kd.C_drewN ?_ _) | (with_reducible refine Kd.C_drew ?_)))
     (case side2 => exact HC2_0.out)
     rintro e w37 ⟨v218, rfl, ho0, hb⟩
     refine ⟨_, rfl, ?_⟩
     have n0_ := A_ (Kd.R_elder' (rz_ HO216.out) (Kd.R_base ho0) hb)
     have n1_ := A_ (Kd.R_lower (Kd.R_new' ho0 (Kd.R_lt (rz_ HO216.out))) (below_size (by repeat (first | (with_reducible first | exact HB.out | apply b1_ | apply b2_ | apply b3_ | apply c_ GE210 | apply c_ GE211 | apply c_ GE224) | exact HB.out))))
     have n2_ := A_ (blk_below (bz_ BK210.out) hb)
     have n3_ := A_ (blk_below (bz_ BK211.out) hb)
     have n4_ := A_ (blk_below (bz_ BK224.out) hb)
     have n5_ := A_ (below_step (by repeat (first | (with_reducible first | exact HB.out | apply b1_ | apply b2_ | apply b3_ | apply c_ GE210 | apply c_ GE211 | apply c_ GE224) | exact HB.out)) hb)
     clear HO216 BK210
     clear BK211 BK224 HB
     have HO216 := n0_
     have HO219 := n1_
     have BK210 := n2_
     have BK211 := n3_
     have BK224 := n4_
     have HB := n5_
     clear n0_ n1_ n2_ n3_ n4_ n5_
     (try clear hb)
     (try clear hb2)
     (try clear hk)
     (try clear hi)
     (try clear ho0)
     obtain ⟨Ao38, co38, eo38⟩ := Kd.R_slice HO216.out
     (first | subst eo38 | (injection eo38 with f1_ f2_ f3_; have f4_ := f1_.symm; have f5_ := f3_.symm; clear f1_ f2_ f3_; subst f4_; subst f5_))
     obtain ⟨Ao39, co39, eo39⟩ := Kd.R_slice HO219.out
     (first | subst eo39 | (injection eo39 with f1_ f2_ f3_; have f4_ := f1_.symm; have f5_ := f3_.symm; clear f1_ f2_ f3_; subst f4_; subst f5_))
     refine hK.out _ _ ⟨(blk_cell BK210.out 0).trans rfl, (blk_cell BK211.out 0).trans rfl⟩ (fun hHeld => ?_)
     clear hK K
     refine norm_ (a' := ?_) ?_ ?_
     rotate_left
     ·show Act.put _ (some 34) _ = _
      simp only [Act.put, List.setIfInBounds_toArray, List.set_cons_zero, List.set_cons_succ, i64_w, i32_w]
      rfl
     refine one_ (i := 5) (N := some 35) #[true, true, true, true, true, true, false, false, false, true, false, false] rfl rfl (one_of HT_.out (by kernel_rfl)) (by decide) (fun K hK => ?_)
     refine goes_ Try.func26 (by kernel_rfl) rfl #[.int .i64 a0, .agg #[.slice Ao38 t214.length co38], .agg #[.slice Ao39 t217.length co39]] (by rfl) rfl rfl (by (try simp only [List.map_toArray, List.map_cons, List.map_nil]); first | done | rfl) ?_
     with_reducible refine (spec_BoxMeet.calls k a0 _ _ t214 _ _ t217 t220 t223 _ ?side1 ?side2 ?side3 ?side4 A22.out).mono ?_
     (case side1 => repeat (first | exact (Kd.R_reads' HO216.out).2.2 | (with_reducible refine Kd.C_alloc ?_ _) | (with_reducible refine Kd.C_drewN ?_ _) | (with_reducible refine Kd.C_drew ?_)))
     (case side2 => exact (Kd.R_reads' HO216.out).2.1)
     (case side3 => repeat (first | exact (Kd.R_reads' HO219.out).2.2 | (with_reducible refine Kd.C_alloc ?_ _) | (with_reducible refine Kd.C_drewN ?_ _) | (with_reducible refine Kd.C_drew ?_)))
     (case side4 => exact (Kd.R_reads' HO219.out).2.1)
     rintro e w40 ⟨v221, rfl, ho0, hb⟩
     refine ⟨_, rfl, ?_⟩
     have n0_ := A_ (Kd.R_elder' (rz_ HO216.out) (Kd.R_base ho0) hb)
     have n1_ := A_ (Kd.R_elder' (rz_ HO219.out) (Kd.R_base ho0) hb)
     have n2_ := A_ (Kd.R_lower (Kd.R_new' (Kd.R_new' ho0 (Kd.R_lt (rz_ HO216.out))) (Kd.R_lt (rz_ HO219.out))) (below_size (by repeat (first | (with_reducible first | exact HB.out | apply b1_ | apply b2_ | apply b3_ | apply c_ GE210 | apply c_ GE211 | apply c_ GE224) | exact HB.out))))
     have n3_ := A_ (blk_below (bz_ BK210.out) hb)
     have n4_ := A_ (blk_below (bz_ BK211.out) hb)
     have n5_ := A_ (blk_below (bz_ BK224.out) hb)
     have n6_ := A_ (below_step (by repeat (first | (with_reducible first | exact HB.out | apply b1_ | apply b2_ | apply b3_ | apply c_ GE210 | apply c_ GE211 | apply c_ GE224) | exact HB.out)) hb)
     clear HO216 HO219
     clear BK210 BK211
     clear BK224 HB
     have HO216 := n0_
     have HO219 := n1_
     have HO222 := n2_
     have BK210 := n3_
     have BK211 := n4_
     have BK224 := n5_
     have HB := n6_
     clear n0_ n1_ n2_ n3_ n4_ n5_ n6_
     (try clear hb)
     (try clear hb2)
     (try clear hk)
     (try clear hi)
     (try clear ho0)
     refine hK.out _ _ ⟨(blk_cell BK210.out 0).trans rfl, (blk_cell BK211.out 0).trans rfl⟩ (fun hHeld => ?_)
     clear hK K
     refine norm_ (a' := ?_) ?_ ?_
     rotate_left
     ·show Act.put _ (some 35) _ = _
      simp only [Act.put, List.setIfInBounds_toArray, List.set_cons_zero, List.set_cons_succ, i64_w, i32_w]
      rfl
     refine pure_ (i := 6) (N := some 29) (v := ?_) (a' := ?_) #[true, true, true, true, true, true, true, false, false, true, false, false] rfl rfl (any_of HT_.out (by kernel_rfl)) (fun _ _ _ h => h) (Or.inl ⟨by rfl, ?_⟩) ?_ ?_
     rotate_left
     ·intro w'
      go_simp
      with_reducible rfl
     rotate_left
     ·simp only [Act.put, List.setIfInBounds_toArray, List.set_cons_zero, List.set_cons_succ, i64_w, i32_w]
      rfl
     refine pure_ (i := 7) (N := some 36) (v := ?_) (a' := ?_) #[true, true, true, true, true, true, true, true, false, true, false, false] rfl rfl (any_of HT_.out (by kernel_rfl)) (fun _ _ _ h => h) (Or.inl ⟨by rfl, ?_⟩) ?_ ?_
     rotate_left
     ·intro w'
      go_simp
      with_reducible rfl
     rotate_left
     ·simp only [Act.put, List.setIfInBounds_toArray, List.set_cons_zero, List.set_cons_succ, i64_w, i32_w]
      rfl
     refine pure_ (i := 8) (N := some 37) (v := ?_) (a' := ?_) #[true, true, true, true, true, true, true, true, true, true, false, false] rfl rfl (any_of HT_.out (by kernel_rfl)) (fun _ _ _ h => h) (Or.inl ⟨by rfl, ?_⟩) ?_ ?_
     rotate_left
     ·intro w'
      go_simp
      with_reducible rfl
     rotate_left
     ·simp only [Act.put, List.setIfInBounds_toArray, List.set_cons_zero, List.set_cons_succ, i64_w, i32_w]
      rfl
     exact norm_ (by simp only [putAll, Act.put, List.setIfInBounds_toArray, List.set_cons_zero, List.set_cons_succ]) (hCont (.slice Ao38 t214.length co38, .slice Ao39 t217.length co39, v221, gb224) _ ⟨hHeld, (rz_ (Kd.R_mono HO216.out (fun _ hk => ⟨hk.1.2, hk.2⟩))), (rz_ (Kd.R_mono HO219.out (fun _ hk => ⟨hk.1.2, hk.2⟩))), (rz_ (Kd.R_mono HO222.out (fun _ hk => ⟨hk.1.2, hk.2⟩))), (bz_ BK210.out), (bz_ BK211.out), (bz_ BK224.out), GW224.out, GE224.out, NB210_224.out, NB224_210.out, NB211_224.out, NB224_211.out, (by repeat (first | (with_reducible first | exact HB.out | apply b1_ | apply b2_ | apply b3_ | apply c_ GE210 | apply c_ GE211 | apply c_ GE224) | exact HB.out))⟩)
   rintro ⟨v215, v218, v221, gb224⟩ w41 ⟨hS_, h0_, h1_, h2_, h3_, h4_, h5_, h6_, h7_, h8_, h9_, h10_, h11_, h12_⟩
   have n0_ : Aside0 (Kd.R k64 64 w41 w.heap.size (fun k_ => some k_ ≠ (v218 : Value).ownBlock ∧ some k_ ≠ (v221 : Value).ownBlock) v215 t214) := ⟨h0_⟩
   have n1_ : Aside0 (Kd.R k64 64 w41 w.heap.size (fun k_ => some k_ ≠ (v215 : Value).ownBlock ∧ some k_ ≠ (v221 : Value).ownBlock) v218 t217) := ⟨h1_⟩
   have n2_ : Aside0 (Kd.R k64 64 w41 w.heap.size (fun k_ => some k_ ≠ (v215 : Value).ownBlock ∧ some k_ ≠ (v218 : Value).ownBlock) v221 t220) := ⟨h2_⟩
   have n3_ : Aside0 (w41.heap[gb210]? = some (.cells #[.slice A1_0 l1_0.length c1_0] 32 (0, 0))) := ⟨h3_⟩
   have n4_ : Aside0 (w41.heap[gb211]? = some (.cells #[.slice A2_0 l2_0.length c2_0] 32 (0, 0))) := ⟨h4_⟩
   have n5_ : Aside0 (w41.heap[gb224]? = some (.cells #[.slice none 0 0] 37 (0, 0))) := ⟨h5_⟩
   have n6_ : Aside0 (w.heap.size ≤ gb224) := ⟨h6_⟩
   have n7_ : Aside0 (w.heap.size ≤ gb224) := ⟨h7_⟩
   have n8_ : Aside0 (gb210 ≠ gb224) := ⟨h8_⟩
   have n9_ : Aside0 (gb224 ≠ gb210) := ⟨h9_⟩
   have n10_ : Aside0 (gb211 ≠ gb224) := ⟨h10_⟩
   have n11_ : Aside0 (gb224 ≠ gb211) := ⟨h11_⟩
   have n12_ : Aside0 (Below w.heap.size w w41) := ⟨h12_⟩
   clear BK210 BK211 HB
   clear h0_ h1_ h2_ h3_ h4_ h5_ h6_ h7_ h8_ h9_ h10_ h11_ h12_
   have HO216 := n0_
   have HO219 := n1_
   have HO222 := n2_
   have BK210 := n3_
   have BK211 := n4_
   have BK224 := n5_
   have GW224 := n6_
   have GE224 := n7_
   have NB210_224 := n8_
   have NB224_210 := n9_
   have NB211_224 := n10_
   have NB224_211 := n11_
   have HB := n12_
   clear n0_ n1_ n2_ n3_ n4_ n5_ n6_ n7_ n8_ n9_ n10_ n11_ n12_
   have hHeld : w41.cell? ⟨gb210, 0, none⟩ = some (.slice A1_0 l1_0.length c1_0) ∧ w41.cell? ⟨gb211, 0, none⟩ = some (.slice A2_0 l2_0.length c2_0) := hS_
   obtain ⟨Ao42, co42, eo42⟩ := Kd.R_slice HO222.out
   (first | subst eo42 | (injection eo42 with f1_ f2_ f3_; have f4_ := f1_.symm; have f5_ := f3_.symm; clear f1_ f2_ f3_; subst f4_; subst f5_))
   refine norm_ (a' := ?_) ?_ ?_
   rotate_left
   ·simp only [putAll, Act.put, List.setIfInBounds_toArray, List.set_cons_zero, List.set_cons_succ]
    rfl
   refine one_ (i := 10) (N := none) #[true, true, true, true, true, true, true, true, true, true, true, false] rfl rfl (one_of HT_.out (by kernel_rfl)) (by decide) (fun K hK => ?_)
   have hs43 : w41.cell? ⟨gb224, 0, none⟩ = some (.slice none 0 0) := (blk_cell BK224.out 0).trans rfl
   have hfs43 := blk_frozen BK224.out 0
   have hns43_0 := NB210_224.out
   have hns43_1 := NB211_224.out
   have hms43_0 := NB224_210.out
   have hms43_1 := NB224_211.out
   refine skip_ (w1 := ?_) (by rfl) rfl ?_ ?_
   rotate_left
   ·go_simp
    rfl
   refine hK.out _ _ ⟨((cell_far (p := ⟨gb224, _, none⟩) NB210_224.out _).trans (hHeld.1)), ((cell_far (p := ⟨gb224, _, none⟩) NB211_224.out _).trans (hHeld.2))⟩ (fun hHeld => ?_)
   clear hK K
   refine pure_ (i := 11) (N := some 9) (v := ?_) (a' := ?_) #[true, true, true, true, true, true, true, true, true, true, true, true] rfl rfl (any_of HT_.out (by kernel_rfl)) (fun _ _ _ h => h) (Or.inl ⟨by rfl, ?_⟩) ?_ ?_
   rotate_left
   ·intro w'
    go_simp
    with_reducible rfl
   rotate_left
   ·simp only [Act.put, List.setIfInBounds_toArray, List.set_cons_zero, List.set_cons_succ, i64_w, i32_w]
    rfl
   refine done_ (done_of HT_.out (by kernel_rfl)) ?_
   have hnb44 := NB210_224.out
   have hnc44 := NB224_210.out
   have hcz45_0 : w41.cell? ⟨gb210, 0, none⟩ = some (.slice A1_0 l1_0.length c1_0) := (blk_cell BK210.out 0).trans rfl
   have hfz45_0 := blk_frozen BK210.out 0
   go_upto_region 12 with (first | ((with_reducible refine gate_callee (f := 15) rfl ?_); refine goesL_ (some 39) rfl rfl Try.func15 (by kernel_rfl) rfl #[.agg #[.slice A1_0 l1_0.length c1_0]] rfl (by (try simp only [List.map_toArray, List.map_cons, List.map_nil]); first | done | rfl) ?_; (with_reducible refine (laws_toBox.calls k _ _ l1_0 t214 _ ?side1 ?side2 A23.out).mono ?_); (case side1 => exact Kd.C_below HR1_0.out (by repeat (first | (with_reducible first | exact HB.out | apply b1_ | apply b2_ | apply b3_ | apply c_ GE210 | apply c_ GE211 | apply c_ GE224) | exact HB.out))); (case side2 => exact HC1_0.out); rintro e w46 ⟨v226, rfl, ho0, hb⟩; refine ⟨_, rfl, ?_⟩; have n0_ := A_ (Kd.R_elder' (rz_ (rs_ HO216.out BK224.out (by decide) (.slice Ao42 t220.length co42))) (Kd.R_base ho0) hb); have n1_ := A_ (Kd.R_elder' (rz_ (rs_ HO219.out BK224.out (by decide) (.slice Ao42 t220.length co42))) (Kd.R_base ho0) hb); have n2_ := A_ (Kd.R_elder' (rz_ (rs_ HO222.out BK224.out (by decide) (.slice Ao42 t220.length co42))) (Kd.R_base ho0) hb); have n3_ := A_ (Kd.R_lower (Kd.R_new' (Kd.R_new' (Kd.R_new' ho0 (Kd.R_lt (rz_ (rs_ HO216.out BK224.out (by decide) (.slice Ao42 t220.length co42))))) (Kd.R_lt (rz_ (rs_ HO219.out BK224.out (by decide) (.slice Ao42 t220.length co42))))) (Kd.R_lt (rz_ (rs_ HO222.out BK224.out (by decide) (.slice Ao42 t220.length co42))))) (below_size (by repeat (first | (with_reducible first | exact HB.out | apply b1_ | apply b2_ | apply b3_ | apply c_ GE210 | apply c_ GE211 | apply c_ GE224) | exact HB.out)))); have n4_ := A_ (blk_below (bz_ (bf_ (bz_ BK210.out) NB210_224.out)) hb); have n5_ := A_ (blk_below (bz_ (bf_ (bz_ BK211.out) NB211_224.out)) hb); have n6_ := A_ (blk_below (g := gb224) (o := .cells #[.slice Ao42 t220.length co42] 37 (0, 0)) (by (with_reducible repeat (first | apply bn_ | apply bd_ | apply ba_)); refine blk_put (cs := #[.slice none 0 0]) ?_ 0 _ (by first | rfl | (simp [*]; done)); (with_reducible repeat (first | apply bn_ | apply bd_ | apply ba_)); exact BK224.out) hb); have n7_ := A_ (below_step (by repeat (first | (with_reducible first | exact HB.out | apply b1_ | apply b2_ | apply b3_ | apply c_ GE210 | apply c_ GE211 | apply c_ GE224) | exact HB.out)) hb); clear HO216 HO219 HO222 BK210 BK211 BK224 HB; have HO216 := n0_; have HO219 := n1_; have HO222 := n2_; have HO227 := n3_; have BK210 := n4_; have BK211 := n5_; have BK224 := n6_; have HB := n7_; clear n0_ n1_ n2_ n3_ n4_ n5_ n6_ n7_; (try clear hb); (try clear hb2); (try clear hk); (try clear hi); (try clear ho0)) | ((with_reducible refine gate_dst (N := 10) rfl ?_); refine box_event ?hg (N := 10) ?hd (cs := #[.slice none 0 0]) (t := 37) ?hr ?_; (case hd => rfl); (case hg => rfl); (case hr => first | (go_simp; done) | (go_simp; rfl)); intro gb228 hg w47 hbox hb; have n0_ := A_ (Kd.R_below (rz_ HO216.out) hb); have n1_ := A_ (Kd.R_below (rz_ HO219.out) hb); have n2_ := A_ (Kd.R_below (rz_ HO222.out) hb); have n3_ := A_ (Kd.R_below (rz_ HO227.out) hb); have n4_ := A_ (blk_below (bz_ BK210.out) hb); have n5_ := A_ (blk_below (bz_ BK211.out) hb); have n6_ := A_ (blk_below (bz_ BK224.out) hb); have n7_ := A_ (below_step (by repeat (first | (with_reducible first | exact HB.out | apply b1_ | apply b2_ | apply b3_ | apply c_ GE210 | apply c_ GE211 | apply c_ GE224) | exact HB.out)) hb); have n8_ := A_ (hbox); have n9_ := A_ ((by rw [hg]; exact (below_size (by repeat (first | (with_reducible first | exact HB.out | apply b1_ | apply b2_ | apply b3_ | apply c_ GE210 | apply c_ GE211 | apply c_ GE224) | exact HB.out))) : w.heap.size ≤ gb228)); have n10_ := n9_; have n11_ := A_ ((by rw [hg]; exact Nat.ne_of_lt (blk_lt (bz_ BK210.out)) : gb210 ≠ gb228)); have n12_ := A_ ((by rw [hg]; exact Nat.ne_of_gt (blk_lt (bz_ BK210.out)) : gb228 ≠ gb210)); have n13_ := A_ ((by rw [hg]; exact Nat.ne_of_lt (blk_lt (bz_ BK211.out)) : gb211 ≠ gb228)); have n14_ := A_ ((by rw [hg]; exact Nat.ne_of_gt (blk_lt (bz_ BK211.out)) : gb228 ≠ gb211)); have n15_ := A_ ((by rw [hg]; exact Nat.ne_of_lt (blk_lt (bz_ BK224.out)) : gb224 ≠ gb228)); have n16_ := A_ ((by rw [hg]; exact Nat.ne_of_gt (blk_lt (bz_ BK224.out)) : gb228 ≠ gb224)); clear HO216 HO219 HO222 HO227 BK210 BK211 BK224 HB; have HO216 := n0_; have HO219 := n1_; have HO222 := n2_; have HO227 := n3_; have BK210 := n4_; have BK211 := n5_; have BK224 := n6_; have HB := n7_; have BK228 := n8_; have GW228 := n9_; have GE228 := n10_; have NB210_228 := n11_; have NB228_210 := n12_; have NB211_228 := n13_; have NB228_211 := n14_; have NB224_228 := n15_; have NB228_224 := n16_; clear n0_ n1_ n2_ n3_ n4_ n5_ n6_ n7_ n8_ n9_ n10_ n11_ n12_ n13_ n14_ n15_ n16_; clear hb hbox hg; obtain ⟨Ao48, co48, eo48⟩ := Kd.R_slice HO227.out; subst eo48; have hnb49 := NB228_210.out; have hnc49 := NB210_228.out; have hnb50 := NB228_211.out; have hnc50 := NB211_228.out; have hnb51 := NB228_224.out; have hnc51 := NB224_228.out; have hcz52_0 : w47.cell? ⟨gb228, 0, none⟩ = some (.slice none 0 0) := (blk_cell BK228.out 0).trans rfl; have hfz52_0 := blk_frozen BK228.out 0; have hnb53 := NB211_224.out; have hnc53 := NB224_211.out; have hcz54_0 : w47.cell? ⟨gb211, 0, none⟩ = some (.slice A2_0 l2_0.length c2_0) := (blk_cell BK211.out 0).trans rfl; have hfz54_0 := blk_frozen BK211.out 0) | ((with_reducible refine gate_callee (f := 15) rfl ?_); refine goesL_ (some 41) rfl rfl Try.func15 (by kernel_rfl) rfl #[.agg #[.slice A2_0 l2_0.length c2_0]] rfl (by (try simp only [List.map_toArray, List.map_cons, List.map_nil]); first | done | rfl) ?_; (with_reducible refine (laws_toBox.calls k _ _ l2_0 t217 _ ?side1 ?side2 A24.out).mono ?_); (case side1 => exact Kd.C_below HR2_0.out (by repeat (first | (with_reducible first | exact HB.out | apply b1_ | apply b2_ | apply b3_ | apply c_ GE210 | apply c_ GE211 | apply c_ GE224 | apply c_ GE228) | exact HB.out))); (case side2 => exact HC2_0.out); rintro e w55 ⟨v230, rfl, ho0, hb⟩; refine ⟨_, rfl, ?_⟩; have n0_ := A_ (Kd.R_elder' (rz_ (rs_ HO216.out BK228.out (by decide) (.slice Ao48 t214.length co48))) (Kd.R_base ho0) hb); have n1_ := A_ (Kd.R_elder' (rz_ (rs_ HO219.out BK228.out (by decide) (.slice Ao48 t214.length co48))) (Kd.R_base ho0) hb); have n2_ := A_ (Kd.R_elder' (rz_ (rs_ HO222.out BK228.out (by decide) (.slice Ao48 t214.length co48))) (Kd.R_base ho0) hb); have n3_ := A_ (Kd.R_elder' (rz_ (rs_ HO227.out BK228.out (by decide) (.slice Ao48 t214.length co48))) (Kd.R_base ho0) hb); have n4_ := A_ (Kd.R_lower (Kd.R_new' (Kd.R_new' (Kd.R_new' (Kd.R_new' ho0 (Kd.R_lt (rz_ (rs_ HO216.out BK228.out (by decide) (.slice Ao48 t214.length co48))))) (Kd.R_lt (rz_ (rs_ HO219.out BK228.out (by decide) (.slice Ao48 t214.length co48))))) (Kd.R_lt (rz_ (rs_ HO222.out BK228.out (by decide) (.slice Ao48 t214.length co48))))) (Kd.R_lt (rz_ (rs_ HO227.out BK228.out (by decide) (.slice Ao48 t214.length co48))))) (below_size (by repeat (first | (with_reducible first | exact HB.out | apply b1_ | apply b2_ | apply b3_ | apply c_ GE210 | apply c_ GE211 | apply c_ GE224 | apply c_ GE228) | exact HB.out)))); have n5_ := A_ (blk_below (bz_ (bf_ (bz_ BK210.out) NB210_228.out)) hb); have n6_ := A_ (blk_below (bz_ (bf_ (bz_ BK211.out) NB211_228.out)) hb); have n7_ := A_ (blk_below (bz_ (bf_ (bz_ BK224.out) NB224_228.out)) hb); have n8_ := A_ (blk_below (g := gb228) (o := .cells #[.slice Ao48 t214.length co48] 37 (0, 0)) (by (with_reducible repeat (first | apply bn_ | apply bd_ | apply ba_)); refine blk_put (cs := #[.slice none 0 0]) ?_ 0 _ (by first | rfl | (simp [*]; done)); (with_reducible repeat (first | apply bn_ | apply bd_ | apply ba_)); exact BK228.out) hb); have n9_ := A_ (below_step (by repeat (first | (with_reducible first | exact HB.out | apply b1_ | apply b2_ | apply b3_ | apply c_ GE210 | apply c_ GE211 | apply c_ GE224 | apply c_ GE228) | exact HB.out)) hb); clear HO216 HO219 HO222 HO227 BK210 BK211 BK224 BK228 HB; have HO216 := n0_; have HO219 := n1_; have HO222 := n2_; have HO227 := n3_; have HO231 := n4_; have BK210 := n5_; have BK211 := n6_; have BK224 := n7_; have BK228 := n8_; have HB := n9_; clear n0_ n1_ n2_ n3_ n4_ n5_ n6_ n7_ n8_ n9_; (try clear hb); (try clear hb2); (try clear hk); (try clear hi); (try clear ho0)) | ((with_reducible refine gate_dst (N := 11) rfl ?_); refine box_event ?hg (N := 11) ?hd (cs := #[.slice none 0 0]) (t := 37) ?hr ?_; (case hd => rfl); (case hg => rfl); (case hr => first | (go_simp; done) | (go_simp; rfl)); intro gb232 hg w56 hbox hb; have n0_ := A_ (Kd.R_below (rz_ HO216.out) hb); have n1_ := A_ (Kd.R_below (rz_ HO219.out) hb); have n2_ := A_ (Kd.R_below (rz_ HO222.out) hb); have n3_ := A_ (Kd.R_below (rz_ HO227.out) hb); have n4_ := A_ (Kd.R_below (rz_ HO231.out) hb); have n5_ := A_ (blk_below (bz_ BK210.out) hb); have n6_ := A_ (blk_below (bz_ BK211.out) hb); have n7_ := A_ (blk_below (bz_ BK224.out) hb); have n8_ := A_ (blk_below (bz_ BK228.out) hb); have n9_ := A_ (below_step (by repeat (first | (with_reducible first | exact HB.out | apply b1_ | apply b2_ | apply b3_ | apply c_ GE210 | apply c_ GE211 | apply c_ GE224 | apply c_ GE228) | exact HB.out)) hb); have n10_ := A_ (hbox); have n11_ := A_ ((by rw [hg]; exact (below_size (by repeat (first | (with_reducible first | exact HB.out | apply b1_ | apply b2_ | apply b3_ | apply c_ GE210 | apply c_ GE211 | apply c_ GE224 | apply c_ GE228) | exact HB.out))) : w.heap.size ≤ gb232)); have n12_ := n11_; have n13_ := A_ ((by rw [hg]; exact Nat.ne_of_lt (blk_lt (bz_ BK210.out)) : gb210 ≠ gb232)); have n14_ := A_ ((by rw [hg]; exact Nat.ne_of_gt (blk_lt (bz_ BK210.out)) : gb232 ≠ gb210)); have n15_ := A_ ((by rw [hg]; exact Nat.ne_of_lt (blk_lt (bz_ BK211.out)) : gb211 ≠ gb232)); have n16_ := A_ ((by rw [hg]; exact Nat.ne_of_gt (blk_lt (bz_ BK211.out)) : gb232 ≠ gb211)); have n17_ := A_ ((by rw [hg]; exact Nat.ne_of_lt (blk_lt (bz_ BK224.out)) : gb224 ≠ gb232)); have n18_ := A_ ((by rw [hg]; exact Nat.ne_of_gt (blk_lt (bz_ BK224.out)) : gb232 ≠ gb224)); have n19_ := A_ ((by rw [hg]; exact Nat.ne_of_lt (blk_lt (bz_ BK228.out)) : gb228 ≠ gb232)); have n20_ := A_ ((by rw [hg]; exact Nat.ne_of_gt (blk_lt (bz_ BK228.out)) : gb232 ≠ gb228)); clear HO216 HO219 HO222 HO227 HO231 BK210 BK211 BK224 BK228 HB; have HO216 := n0_; have HO219 := n1_; have HO222 := n2_; have HO227 := n3_; have HO231 := n4_; have BK210 := n5_; have BK211 := n6_; have BK224 := n7_; have BK228 := n8_; have HB := n9_; have BK232 := n10_; have GW232 := n11_; have GE232 := n12_; have NB210_232 := n13_; have NB232_210 := n14_; have NB211_232 := n15_; have NB232_211 := n16_; have NB224_232 := n17_; have NB232_224 := n18_; have NB228_232 := n19_; have NB232_228 := n20_; clear n0_ n1_ n2_ n3_ n4_ n5_ n6_ n7_ n8_ n9_ n10_ n11_ n12_ n13_ n14_ n15_ n16_ n17_ n18_ n19_ n20_; clear hb hbox hg; obtain ⟨Ao57, co57, eo57⟩ := Kd.R_slice HO231.out; subst eo57; have hnb58 := NB232_210.out; have hnc58 := NB210_232.out; have hnb59 := NB232_211.out; have hnc59 := NB211_232.out; have hnb60 := NB232_224.out; have hnc60 := NB224_232.out; have hnb61 := NB232_228.out; have hnc61 := NB228_232.out; have hcz62_0 : w56.cell? ⟨gb232, 0, none⟩ = some (.slice none 0 0) := (blk_cell BK232.out 0).trans rfl; have hfz62_0 := blk_frozen BK232.out 0; have hcz63_0 : w56.cell? ⟨gb228, 0, none⟩ = some (.slice Ao48 t214.length co48) := (blk_cell BK228.out 0).trans rfl; have hfz63_0 := blk_frozen BK228.out 0) | ((with_reducible refine gate_callee (f := 27) rfl ?_); refine goesL_ (some 46) rfl rfl Try.func27 (by kernel_rfl) rfl #[.int .i64 a0, .agg #[.slice Ao48 t214.length co48], .agg #[.slice Ao57 t217.length co57]] rfl (by (try simp only [List.map_toArray, List.map_cons, List.map_nil]); first | done | rfl) ?_; (with_reducible refine (impl_BoxMeet.calls k a0 _ _ t214 _ _ t217 t233 t236 _ ?side1 ?side2 ?side3 ?side4 A25.out).mono ?_); (case side1 => refine (Kd.R_reads' (e := 64) (base := w.heap.size) (ok := fun k_ => ((((True ∧ some k_ ≠ (v215 : Value).ownBlock) ∧ some k_ ≠ (v218 : Value).ownBlock) ∧ some k_ ≠ (.slice Ao42 t220.length co42 : Value).ownBlock) ∧ some k_ ≠ (.slice Ao57 t217.length co57 : Value).ownBlock)) (n := t214.length) (c := co48) ?_).2.2; exact (rz_ (rs_ HO227.out BK232.out (by decide) (.slice Ao57 t217.length co57)))); (case side2 => exact (Kd.R_reads' HO227.out).2.1); (case side3 => refine (Kd.R_reads' (e := 64) (base := w.heap.size) (ok := fun k_ => ((((True ∧ some k_ ≠ (v215 : Value).ownBlock) ∧ some k_ ≠ (v218 : Value).ownBlock) ∧ some k_ ≠ (.slice Ao42 t220.length co42 : Value).ownBlock) ∧ some k_ ≠ (.slice Ao48 t214.length co48 : Value).ownBlock)) (n := t217.length) (c := co57) ?_).2.2; exact (rz_ (rs_ HO231.out BK232.out (by decide) (.slice Ao57 t217.length co57)))); (case side4 => exact (Kd.R_reads' HO231.out).2.1); rintro e w64 ⟨v234, rfl, ho0, hb⟩; refine ⟨_, rfl, ?_⟩; have n0_ := A_ (Kd.R_elder' (rz_ (rs_ HO216.out BK232.out (by decide) (.slice Ao57 t217.length co57))) (Kd.R_base ho0) hb); have n1_ := A_ (Kd.R_elder' (rz_ (rs_ HO219.out BK232.out (by decide) (.slice Ao57 t217.length co57))) (Kd.R_base ho0) hb); have n2_ := A_ (Kd.R_elder' (rz_ (rs_ HO222.out BK232.out (by decide) (.slice Ao57 t217.length co57))) (Kd.R_base ho0) hb); have n3_ := A_ (Kd.R_elder' (rz_ (rs_ HO227.out BK232.out (by decide) (.slice Ao57 t217.length co57))) (Kd.R_base ho0) hb); have n4_ := A_ (Kd.R_elder' (rz_ (rs_ HO231.out BK232.out (by decide) (.slice Ao57 t217.length co57))) (Kd.R_base ho0) hb); have n5_ := A_ (Kd.R_lower (Kd.R_new' (Kd.R_new' (Kd.R_new' (Kd.R_new' (Kd.R_new' ho0 (Kd.R_lt (rz_ (rs_ HO216.out BK232.out (by decide) (.slice Ao57 t217.length co57))))) (Kd.R_lt (rz_ (rs_ HO219.out BK232.out (by decide) (.slice Ao57 t217.length co57))))) (Kd.R_lt (rz_ (rs_ HO222.out BK232.out (by decide) (.slice Ao57 t217.length co57))))) (Kd.R_lt (rz_ (rs_ HO227.out BK232.out (by decide) (.slice Ao57 t217.length co57))))) (Kd.R_lt (rz_ (rs_ HO231.out BK232.out (by decide) (.slice Ao57 t217.length co57))))) (below_size (by repeat (first | (with_reducible first | exact HB.out | apply b1_ | apply b2_ | apply b3_ | apply c_ GE210 | apply c_ GE211 | apply c_ GE224 | apply c_ GE228 | apply c_ GE232) | exact HB.out)))); have n6_ := A_ (blk_below (bz_ (bf_ (bz_ BK210.out) NB210_232.out)) hb); have n7_ := A_ (blk_below (bz_ (bf_ (bz_ BK211.out) NB211_232.out)) hb); have n8_ := A_ (blk_below (bz_ (bf_ (bz_ BK224.out) NB224_232.out)) hb); have n9_ := A_ (blk_below (bz_ (bf_ (bz_ BK228.out) NB228_232.out)) hb); have n10_ := A_ (blk_below (g := gb232) (o := .cells #[.slice Ao57 t217.length co57] 37 (0, 0)) (by (with_reducible repeat (first | apply bn_ | apply bd_ | apply ba_)); refine blk_put (cs := #[.slice none 0 0]) ?_ 0 _ (by first | rfl | (simp [*]; done)); (with_reducible repeat (first | apply bn_ | apply bd_ | apply ba_)); exact BK232.out) hb); have n11_ := A_ (below_step (by repeat (first | (with_reducible first | exact HB.out | apply b1_ | apply b2_ | apply b3_ | apply c_ GE210 | apply c_ GE211 | apply c_ GE224 | apply c_ GE228 | apply c_ GE232) | exact HB.out)) hb); clear HO216 HO219 HO222 HO227 HO231 BK210 BK211 BK224 BK228 BK232 HB; have HO216 := n0_; have HO219 := n1_; have HO222 := n2_; have HO227 := n3_; have HO231 := n4_; have HO235 := n5_; have BK210 := n6_; have BK211 := n7_; have BK224 := n8_; have BK228 := n9_; have BK232 := n10_; have HB := n11_; clear n0_ n1_ n2_ n3_ n4_ n5_ n6_ n7_ n8_ n9_ n10_ n11_; (try clear hb); (try clear hb2); (try clear hk); (try clear hi); (try clear ho0)) | ((with_reducible refine gate_dst (N := 12) rfl ?_); refine box_event ?hg (N := 12) ?hd (cs := #[.slice none 0 0]) (t := 37) ?hr ?_; (case hd => rfl); (case hg => rfl); (case hr => first | (go_simp; done) | (go_simp; rfl)); intro gb237 hg w65 hbox hb; have n0_ := A_ (Kd.R_below (rz_ HO216.out) hb); have n1_ := A_ (Kd.R_below (rz_ HO219.out) hb); have n2_ := A_ (Kd.R_below (rz_ HO222.out) hb); have n3_ := A_ (Kd.R_below (rz_ HO227.out) hb); have n4_ := A_ (Kd.R_below (rz_ HO231.out) hb); have n5_ := A_ (Kd.R_below (rz_ HO235.out) hb); have n6_ := A_ (blk_below (bz_ BK210.out) hb); have n7_ := A_ (blk_below (bz_ BK211.out) hb); have n8_ := A_ (blk_below (bz_ BK224.out) hb); have n9_ := A_ (blk_below (bz_ BK228.out) hb); have n10_ := A_ (blk_below (bz_ BK232.out) hb); have n11_ := A_ (below_step (by repeat (first | (with_reducible first | exact HB.out | apply b1_ | apply b2_ | apply b3_ | apply c_ GE210 | apply c_ GE211 | apply c_ GE224 | apply c_ GE228 | apply c_ GE232) | exact HB.out)) hb); have n12_ := A_ (hbox); have n13_ := A_ ((by rw [hg]; exact (below_size (by repeat (first | (with_reducible first | exact HB.out | apply b1_ | apply b2_ | apply b3_ | apply c_ GE210 | apply c_ GE211 | apply c_ GE224 | apply c_ GE228 | apply c_ GE232) | exact HB.out))) : w.heap.size ≤ gb237)); have n14_ := n13_; have n15_ := A_ ((by rw [hg]; exact Nat.ne_of_lt (blk_lt (bz_ BK210.out)) : gb210 ≠ gb237)); have n16_ := A_ ((by rw [hg]; exact Nat.ne_of_gt (blk_lt (bz_ BK210.out)) : gb237 ≠ gb210)); have n17_ := A_ ((by rw [hg]; exact Nat.ne_of_lt (blk_lt (bz_ BK211.out)) : gb211 ≠ gb237)); have n18_ := A_ ((by rw [hg]; exact Nat.ne_of_gt (blk_lt (bz_ BK211.out)) : gb237 ≠ gb211)); have n19_ := A_ ((by rw [hg]; exact Nat.ne_of_lt (blk_lt (bz_ BK224.out)) : gb224 ≠ gb237)); have n20_ := A_ ((by rw [hg]; exact Nat.ne_of_gt (blk_lt (bz_ BK224.out)) : gb237 ≠ gb224)); have n21_ := A_ ((by rw [hg]; exact Nat.ne_of_lt (blk_lt (bz_ BK228.out)) : gb228 ≠ gb237)); have n22_ := A_ ((by rw [hg]; exact Nat.ne_of_gt (blk_lt (bz_ BK228.out)) : gb237 ≠ gb228)); have n23_ := A_ ((by rw [hg]; exact Nat.ne_of_lt (blk_lt (bz_ BK232.out)) : gb232 ≠ gb237)); have n24_ := A_ ((by rw [hg]; exact Nat.ne_of_gt (blk_lt (bz_ BK232.out)) : gb237 ≠ gb232)); clear HO216 HO219 HO222 HO227 HO231 HO235 BK210 BK211 BK224 BK228 BK232 HB; have HO216 := n0_; have HO219 := n1_; have HO222 := n2_; have HO227 := n3_; have HO231 := n4_; have HO235 := n5_; have BK210 := n6_; have BK211 := n7_; have BK224 := n8_; have BK228 := n9_; have BK232 := n10_; have HB := n11_; have BK237 := n12_; have GW237 := n13_; have GE237 := n14_; have NB210_237 := n15_; have NB237_210 := n16_; have NB211_237 := n17_; have NB237_211 := n18_; have NB224_237 := n19_; have NB237_224 := n20_; have NB228_237 := n21_; have NB237_228 := n22_; have NB232_237 := n23_; have NB237_232 := n24_; clear n0_ n1_ n2_ n3_ n4_ n5_ n6_ n7_ n8_ n9_ n10_ n11_ n12_ n13_ n14_ n15_ n16_ n17_ n18_ n19_ n20_ n21_ n22_ n23_ n24_; clear hb hbox hg; obtain ⟨Ao66, co66, eo66⟩ := Kd.R_slice HO235.out; subst eo66; have hnb67 := NB237_210.out; have hnc67 := NB210_237.out; have hnb68 := NB237_211.out; have hnc68 := NB211_237.out; have hnb69 := NB237_224.out; have hnc69 := NB224_237.out; have hnb70 := NB237_228.out; have hnc70 := NB228_237.out; have hnb71 := NB237_232.out; have hnc71 := NB232_237.out; have hcz72_0 : w65.cell? ⟨gb237, 0, none⟩ = some (.slice none 0 0) := (blk_cell BK237.out 0).trans rfl; have hfz72_0 := blk_frozen BK237.out 0))
   (try simp only [Act.put, List.setIfInBounds_toArray, List.set_cons_zero, List.set_cons_succ])
   go_cut [57] (fun v57 wc => ∃ (kq : Nat) (x57_25 : Bool), v57 = .bool x57_25 ∧ Aside0 (laws_FnExactBoxMeet.j0 kq a0 t223 t236 x57_25 l1_0 l2_0 t220 t214 t217 t233 = some r) ∧ Aside0 (kq ≤ k) ∧ Aside0 (Kd.R k64 64 wc w.heap.size (fun k_ => some k_ ≠ ((.slice Ao48 t214.length co48) : Value).ownBlock ∧ some k_ ≠ ((.slice Ao57 t217.length co57) : Value).ownBlock ∧ some k_ ≠ ((.slice Ao66 t233.length co66) : Value).ownBlock) (.slice Ao42 t220.length co42) t220) ∧ Aside0 (Kd.R k64 64 wc w.heap.size (fun k_ => some k_ ≠ ((.slice Ao42 t220.length co42) : Value).ownBlock ∧ some k_ ≠ ((.slice Ao57 t217.length co57) : Value).ownBlock ∧ some k_ ≠ ((.slice Ao66 t233.length co66) : Value).ownBlock) (.slice Ao48 t214.length co48) t214) ∧ Aside0 (Kd.R k64 64 wc w.heap.size (fun k_ => some k_ ≠ ((.slice Ao42 t220.length co42) : Value).ownBlock ∧ some k_ ≠ ((.slice Ao48 t214.length co48) : Value).ownBlock ∧ some k_ ≠ ((.slice Ao66 t233.length co66) : Value).ownBlock) (.slice Ao57 t217.length co57) t217) ∧ Aside0 (Kd.R k64 64 wc w.heap.size (fun k_ => some k_ ≠ ((.slice Ao42 t220.length co42) : Value).ownBlock ∧ some k_ ≠ ((.slice Ao48 t214.length co48) : Value).ownBlock ∧ some k_ ≠ ((.slice Ao57 t217.length co57) : Value).ownBlock) (.slice Ao66 t233.length co66) t233) ∧ Aside0 (wc.heap[gb210]? = some (.cells #[(.slice A1_0 l1_0.length c1_0)] 32 (0, 0))) ∧ Aside0 (wc.heap[gb211]? = some (.cells #[(.slice A2_0 l2_0.length c2_0)] 32 (0, 0))) ∧ Aside0 (wc.heap[gb224]? = some (.cells #[(.slice Ao42 t220.length co42)] 37 (0, 0))) ∧ Aside0 (wc.heap[gb228]? = some (.cells #[(.slice Ao48 t214.length co48)] 37 (0, 0))) ∧ Aside0 (wc.heap[gb232]? = some (.cells #[(.slice Ao57 t217.length co57)] 37 (0, 0))) ∧ Aside0 (wc.heap[gb237]? = some (.cells #[(.slice Ao66 t233.length co66)] 37 (0, 0))) ∧ Aside0 (Below w.heap.size w wc))
   case first =>
    have H := HC26.out
    clear HC26
    replace H := Option.bind_eq_some_iff.mp H
    obtain ⟨t238, A730, H⟩ := H
    replace H : (if t238 = true then (laws_FnExactBoxMeet.j0 k a0 t223 t236 (t236 != t223) l1_0 l2_0 t220 t214 t217 t233) else (laws_FnExactBoxMeet.j0 k a0 t223 t236 true l1_0 l2_0 t220 t214 t217 t233)) = some r := H
    have A73 := A_ A730
    clear A730
    by_cases c74 : t238 = true
    ·subst c74
     have H1 : (laws_FnExactBoxMeet.j0 k a0 t223 t236 (t236 != t223) l1_0 l2_0 t220 t214 t217 t233) = some r := by rw [if_pos rfl] at H; exact H
     clear H
     have H := H1
     clear H1
     have H' := A_ H
     clear H
     have hnb75 := NB237_210.out
     have hnc75 := NB210_237.out
     have hnb76 := NB237_211.out
     have hnc76 := NB211_237.out
     have hnb77 := NB237_224.out
     have hnc77 := NB224_237.out
     have hnb78 := NB237_228.out
     have hnc78 := NB228_237.out
     have hnb79 := NB237_232.out
     have hnc79 := NB232_237.out
     have hcz80_0 : w65.cell? ⟨gb237, 0, none⟩ = some (.slice none 0 0) := (blk_cell BK237.out 0).trans rfl
     have hfz80_0 := blk_frozen BK237.out 0
     have hnb81 := NB224_210.out
     have hnc81 := NB210_224.out
     have hnb82 := NB224_211.out
     have hnc82 := NB211_224.out
     have hnb83 := NB224_228.out
     have hnc83 := NB228_224.out
     have hnb84 := NB224_232.out
     have hnc84 := NB232_224.out
     have hcz85_0 : w65.cell? ⟨gb224, 0, none⟩ = some (.slice Ao42 t220.length co42) := (blk_cell BK224.out 0).trans rfl
     have hfz85_0 := blk_frozen BK224.out 0
     go_wp2_with (first | ((with_reducible refine gate_callee (f := 17) rfl ?_); refine goesL_ (some 51) rfl rfl Try.func17 (by kernel_rfl) rfl #[.agg #[.slice Ao66 t233.length co66], .agg #[.slice Ao42 t220.length co42]] rfl (by (try simp only [List.map_toArray, List.map_cons, List.map_nil]); first | done | rfl) ?_; (with_reducible refine (laws_eqBox.calls k _ _ t233 _ _ t220 true _ ?side1 ?side2 ?side3 ?side4 A73.out).mono ?_); (case side1 => refine (Kd.R_reads' (e := 64) (base := w.heap.size) (ok := fun k_ => (((((True ∧ some k_ ≠ (v215 : Value).ownBlock) ∧ some k_ ≠ (v218 : Value).ownBlock) ∧ some k_ ≠ (.slice Ao42 t220.length co42 : Value).ownBlock) ∧ some k_ ≠ (.slice Ao48 t214.length co48 : Value).ownBlock) ∧ some k_ ≠ (.slice Ao57 t217.length co57 : Value).ownBlock)) (n := t233.length) (c := co66) ?_).2.2; exact (rz_ (rs_ HO235.out BK237.out (by decide) (.slice Ao66 t233.length co66)))); (case side2 => exact (Kd.R_reads' HO235.out).2.1); (case side3 => refine (Kd.R_reads' (e := 64) (base := w.heap.size) (ok := fun k_ => ((((some k_ ≠ (v215 : Value).ownBlock ∧ some k_ ≠ (v218 : Value).ownBlock) ∧ some k_ ≠ (.slice Ao48 t214.length co48 : Value).ownBlock) ∧ some k_ ≠ (.slice Ao57 t217.length co57 : Value).ownBlock) ∧ some k_ ≠ (.slice Ao66 t233.length co66 : Value).ownBlock)) (n := t220.length) (c := co42) ?_).2.2; exact (rz_ (rs_ HO222.out BK237.out (by decide) (.slice Ao66 t233.length co66)))); (case side4 => exact (Kd.R_reads' HO222.out).2.1); rintro e w86 ⟨rfl, hb⟩; refine ⟨_, rfl, ?_⟩; have n0_ := A_ (Kd.R_below (rz_ (rs_ HO216.out BK237.out (by decide) (.slice Ao66 t233.length co66))) hb); have n1_ := A_ (Kd.R_below (rz_ (rs_ HO219.out BK237.out (by decide) (.slice Ao66 t233.length co66))) hb); have n2_ := A_ (Kd.R_below (rz_ (rs_ HO222.out BK237.out (by decide) (.slice Ao66 t233.length co66))) hb); have n3_ := A_ (Kd.R_below (rz_ (rs_ HO227.out BK237.out (by decide) (.slice Ao66 t233.length co66))) hb); have n4_ := A_ (Kd.R_below (rz_ (rs_ HO231.out BK237.out (by decide) (.slice Ao66 t233.length co66))) hb); have n5_ := A_ (Kd.R_below (rz_ (rs_ HO235.out BK237.out (by decide) (.slice Ao66 t233.length co66))) hb); have n6_ := A_ (blk_below (bz_ (bf_ (bz_ BK210.out) NB210_237.out)) hb); have n7_ := A_ (blk_below (bz_ (bf_ (bz_ BK211.out) NB211_237.out)) hb); have n8_ := A_ (blk_below (bz_ (bf_ (bz_ BK224.out) NB224_237.out)) hb); have n9_ := A_ (blk_below (bz_ (bf_ (bz_ BK228.out) NB228_237.out)) hb); have n10_ := A_ (blk_below (bz_ (bf_ (bz_ BK232.out) NB232_237.out)) hb); have n11_ := A_ (blk_below (g := gb237) (o := .cells #[.slice Ao66 t233.length co66] 37 (0, 0)) (by (with_reducible repeat (first | apply bn_ | apply bd_ | apply ba_)); refine blk_put (cs := #[.slice none 0 0]) ?_ 0 _ (by first | rfl | (simp [*]; done)); (with_reducible repeat (first | apply bn_ | apply bd_ | apply ba_)); exact BK237.out) hb); have n12_ := A_ (below_step (by repeat (first | (with_reducible first | exact HB.out | apply b1_ | apply b2_ | apply b3_ | apply c_ GE210 | apply c_ GE211 | apply c_ GE224 | apply c_ GE228 | apply c_ GE232 | apply c_ GE237) | exact HB.out)) hb); clear HO216 HO219 HO222 HO227 HO231 HO235 BK210 BK211 BK224 BK228 BK232 BK237 HB; have HO216 := n0_; have HO219 := n1_; have HO222 := n2_; have HO227 := n3_; have HO231 := n4_; have HO235 := n5_; have BK210 := n6_; have BK211 := n7_; have BK224 := n8_; have BK228 := n9_; have BK232 := n10_; have BK237 := n11_; have HB := n12_; clear n0_ n1_ n2_ n3_ n4_ n5_ n6_ n7_ n8_ n9_ n10_ n11_ n12_; (try clear hb); (try clear hb2); (try clear hk); (try clear hi)))
     go_meet
     case rel => exact ⟨_, ((t236 != t223)), (by first | rfl | (simp; done) | (simp [*]; done)), H', ⟨by first | omega | exact Nat.le_refl _⟩, ⟨by (with_reducible repeat (first | apply Kd.R_alloc | apply Kd.R_drewN | apply Kd.R_drew)); exact Kd.R_mono HO222.out (fun _ hk => ⟨hk.1.1.2, ⟨hk.1.2, hk.2⟩⟩)⟩, ⟨by (with_reducible repeat (first | apply Kd.R_alloc | apply Kd.R_drewN | apply Kd.R_drew)); exact Kd.R_mono HO227.out (fun _ hk => ⟨hk.1.1.2, ⟨hk.1.2, hk.2⟩⟩)⟩, ⟨by (with_reducible repeat (first | apply Kd.R_alloc | apply Kd.R_drewN | apply Kd.R_drew)); exact Kd.R_mono HO231.out (fun _ hk => ⟨hk.1.1.2, ⟨hk.1.2, hk.2⟩⟩)⟩, ⟨by (with_reducible repeat (first | apply Kd.R_alloc | apply Kd.R_drewN | apply Kd.R_drew)); exact Kd.R_mono HO235.out (fun _ hk => ⟨hk.1.1.2, ⟨hk.1.2, hk.2⟩⟩)⟩, ⟨by (with_reducible repeat (first | apply bn_ | apply bd_ | apply ba_)); exact BK210.out⟩, ⟨by (with_reducible repeat (first | apply bn_ | apply bd_ | apply ba_)); exact BK211.out⟩, ⟨by (with_reducible repeat (first | apply bn_ | apply bd_ | apply ba_)); exact BK224.out⟩, ⟨by (with_reducible repeat (first | apply bn_ | apply bd_ | apply ba_)); exact BK228.out⟩, ⟨by (with_reducible repeat (first | apply bn_ | apply bd_ | apply ba_)); exact BK232.out⟩, ⟨by (with_reducible repeat (first | apply bn_ | apply bd_ | apply ba_)); exact BK237.out⟩, ⟨by repeat (first | (with_reducible first | exact HB.out | apply b1_ | apply b2_ | apply b3_ | apply c_ GE210 | apply c_ GE211 | apply c_ GE224 | apply c_ GE228 | apply c_ GE232 | apply c_ GE237) | exact HB.out)⟩⟩
    ·replace c74 := Bool.eq_false_iff.mpr c74
     subst c74
     have H1 : (laws_FnExactBoxMeet.j0 k a0 t223 t236 true l1_0 l2_0 t220 t214 t217 t233) = some r := by rw [if_neg (show ¬ (false = true) by decide)] at H; exact H
     clear H
     have H := H1
     clear H1
     have H' := A_ H
     clear H
     have hnb87 := NB237_210.out
     have hnc87 := NB210_237.out
     have hnb88 := NB237_211.out
     have hnc88 := NB211_237.out
     have hnb89 := NB237_224.out
     have hnc89 := NB224_237.out
     have hnb90 := NB237_228.out
     have hnc90 := NB228_237.out
     have hnb91 := NB237_232.out
     have hnc91 := NB232_237.out
     have hcz92_0 : w65.cell? ⟨gb237, 0, none⟩ = some (.slice none 0 0) := (blk_cell BK237.out 0).trans rfl
     have hfz92_0 := blk_frozen BK237.out 0
     have hnb93 := NB224_210.out
     have hnc93 := NB210_224.out
     have hnb94 := NB224_211.out
     have hnc94 := NB211_224.out
     have hnb95 := NB224_228.out
     have hnc95 := NB228_224.out
     have hnb96 := NB224_232.out
     have hnc96 := NB232_224.out
     have hcz97_0 : w65.cell? ⟨gb224, 0, none⟩ = some (.slice Ao42 t220.length co42) := (blk_cell BK224.out 0).trans rfl
     have hfz97_0 := blk_frozen BK224.out 0
     go_wp2_with (first | ((with_reducible refine gate_callee (f := 17) rfl ?_); refine goesL_ (some 51) rfl rfl Try.func17 (by kernel_rfl) rfl #[.agg #[.slice Ao66 t233.length co66], .agg #[.slice Ao42 t220.length co42]] rfl (by (try simp only [List.map_toArray, List.map_cons, List.map_nil]); first | done | rfl) ?_; (with_reducible refine (laws_eqBox.calls k _ _ t233 _ _ t220 false _ ?side1 ?side2 ?side3 ?side4 A73.out).mono ?_); (case side1 => refine (Kd.R_reads' (e := 64) (base := w.heap.size) (ok := fun k_ => (((((True ∧ some k_ ≠ (v215 : Value).ownBlock) ∧ some k_ ≠ (v218 : Value).ownBlock) ∧ some k_ ≠ (.slice Ao42 t220.length co42 : Value).ownBlock) ∧ some k_ ≠ (.slice Ao48 t214.length co48 : Value).ownBlock) ∧ some k_ ≠ (.slice Ao57 t217.length co57 : Value).ownBlock)) (n := t233.length) (c := co66) ?_).2.2; exact (rz_ (rs_ HO235.out BK237.out (by decide) (.slice Ao66 t233.length co66)))); (case side2 => exact (Kd.R_reads' HO235.out).2.1); (case side3 => refine (Kd.R_reads' (e := 64) (base := w.heap.size) (ok := fun k_ => ((((some k_ ≠ (v215 : Value).ownBlock ∧ some k_ ≠ (v218 : Value).ownBlock) ∧ some k_ ≠ (.slice Ao48 t214.length co48 : Value).ownBlock) ∧ some k_ ≠ (.slice Ao57 t217.length co57 : Value).ownBlock) ∧ some k_ ≠ (.slice Ao66 t233.length co66 : Value).ownBlock)) (n := t220.length) (c := co42) ?_).2.2; exact (rz_ (rs_ HO222.out BK237.out (by decide) (.slice Ao66 t233.length co66)))); (case side4 => exact (Kd.R_reads' HO222.out).2.1); rintro e w98 ⟨rfl, hb⟩; refine ⟨_, rfl, ?_⟩; have n0_ := A_ (Kd.R_below (rz_ (rs_ HO216.out BK237.out (by decide) (.slice Ao66 t233.length co66))) hb); have n1_ := A_ (Kd.R_below (rz_ (rs_ HO219.out BK237.out (by decide) (.slice Ao66 t233.length co66))) hb); have n2_ := A_ (Kd.R_below (rz_ (rs_ HO222.out BK237.out (by decide) (.slice Ao66 t233.length co66))) hb); have n3_ := A_ (Kd.R_below (rz_ (rs_ HO227.out BK237.out (by decide) (.slice Ao66 t233.length co66))) hb); have n4_ := A_ (Kd.R_below (rz_ (rs_ HO231.out BK237.out (by decide) (.slice Ao66 t233.length co66))) hb); have n5_ := A_ (Kd.R_below (rz_ (rs_ HO235.out BK237.out (by decide) (.slice Ao66 t233.length co66))) hb); have n6_ := A_ (blk_below (bz_ (bf_ (bz_ BK210.out) NB210_237.out)) hb); have n7_ := A_ (blk_below (bz_ (bf_ (bz_ BK211.out) NB211_237.out)) hb); have n8_ := A_ (blk_below (bz_ (bf_ (bz_ BK224.out) NB224_237.out)) hb); have n9_ := A_ (blk_below (bz_ (bf_ (bz_ BK228.out) NB228_237.out)) hb); have n10_ := A_ (blk_below (bz_ (bf_ (bz_ BK232.out) NB232_237.out)) hb); have n11_ := A_ (blk_below (g := gb237) (o := .cells #[.slice Ao66 t233.length co66] 37 (0, 0)) (by (with_reducible repeat (first | apply bn_ | apply bd_ | apply ba_)); refine blk_put (cs := #[.slice none 0 0]) ?_ 0 _ (by first | rfl | (simp [*]; done)); (with_reducible repeat (first | apply bn_ | apply bd_ | apply ba_)); exact BK237.out) hb); have n12_ := A_ (below_step (by repeat (first | (with_reducible first | exact HB.out | apply b1_ | apply b2_ | apply b3_ | apply c_ GE210 | apply c_ GE211 | apply c_ GE224 | apply c_ GE228 | apply c_ GE232 | apply c_ GE237) | exact HB.out)) hb); clear HO216 HO219 HO222 HO227 HO231 HO235 BK210 BK211 BK224 BK228 BK232 BK237 HB; have HO216 := n0_; have HO219 := n1_; have HO222 := n2_; have HO227 := n3_; have HO231 := n4_; have HO235 := n5_; have BK210 := n6_; have BK211 := n7_; have BK224 := n8_; have BK228 := n9_; have BK232 := n10_; have BK237 := n11_; have HB := n12_; clear n0_ n1_ n2_ n3_ n4_ n5_ n6_ n7_ n8_ n9_ n10_ n11_ n12_; (try clear hb); (try clear hb2); (try clear hk); (try clear hi)))
     go_meet
     case rel => exact ⟨_, (true), (by first | rfl | (simp; done) | (simp [*]; done)), H', ⟨by first | omega | exact Nat.le_refl _⟩, ⟨by (with_reducible repeat (first | apply Kd.R_alloc | apply Kd.R_drewN | apply Kd.R_drew)); exact Kd.R_mono HO222.out (fun _ hk => ⟨hk.1.1.2, ⟨hk.1.2, hk.2⟩⟩)⟩, ⟨by (with_reducible repeat (first | apply Kd.R_alloc | apply Kd.R_drewN | apply Kd.R_drew)); exact Kd.R_mono HO227.out (fun _ hk => ⟨hk.1.1.2, ⟨hk.1.2, hk.2⟩⟩)⟩, ⟨by (with_reducible repeat (first | apply Kd.R_alloc | apply Kd.R_drewN | apply Kd.R_drew)); exact Kd.R_mono HO231.out (fun _ hk => ⟨hk.1.1.2, ⟨hk.1.2, hk.2⟩⟩)⟩, ⟨by (with_reducible repeat (first | apply Kd.R_alloc | apply Kd.R_drewN | apply Kd.R_drew)); exact Kd.R_mono HO235.out (fun _ hk => ⟨hk.1.1.2, ⟨hk.1.2, hk.2⟩⟩)⟩, ⟨by (with_reducible repeat (first | apply bn_ | apply bd_ | apply ba_)); exact BK210.out⟩, ⟨by (with_reducible repeat (first | apply bn_ | apply bd_ | apply ba_)); exact BK211.out⟩, ⟨by (with_reducible repeat (first | apply bn_ | apply bd_ | apply ba_)); exact BK224.out⟩, ⟨by (with_reducible repeat (first | apply bn_ | apply bd_ | apply ba_)); exact BK228.out⟩, ⟨by (with_reducible repeat (first | apply bn_ | apply bd_ | apply ba_)); exact BK232.out⟩, ⟨by (with_reducible repeat (first | apply bn_ | apply bd_ | apply ba_)); exact BK237.out⟩, ⟨by repeat (first | (with_reducible first | exact HB.out | apply b1_ | apply b2_ | apply b3_ | apply c_ GE210 | apply c_ GE211 | apply c_ GE224 | apply c_ GE228 | apply c_ GE232 | apply c_ GE237) | exact HB.out)⟩⟩
   case rest =>
    clear HC26
    (try clear c1); (try clear c2); (try clear p2); (try clear c4); (try clear c5); (try clear c6); (try clear c7); (try clear c8); (try clear c9); (try clear c15); (try clear c17); (try clear c26); (try clear c27); (try clear c44); (try clear c49); (try clear c50); (try clear c51); (try clear c53); (try clear c58); (try clear c59); (try clear c60); (try clear c61); (try clear c67); (try clear c68); (try clear c69); (try clear c70); (try clear c71); (try clear c74); (try clear c75); (try clear c76); (try clear c77); (try clear c78); (try clear c79); (try clear c81); (try clear c82); (try clear c83); (try clear c84); (try clear c87); (try clear c88); (try clear c89); (try clear c90); (try clear c91); (try clear c93); (try clear c94); (try clear c95); (try clear c96); (try clear hcz45_0); (try clear hcz52_0); (try clear hcz54_0); (try clear hcz62_0); (try clear hcz63_0); (try clear hcz72_0); (try clear hcz80_0); (try clear hcz85_0); (try clear hcz92_0); (try clear hcz97_0); (try clear hfz45_0); (try clear hfz52_0); (try clear hfz54_0); (try clear hfz62_0); (try clear hfz63_0); (try clear hfz72_0); (try clear hfz80_0); (try clear hfz85_0); (try clear hfz92_0); (try clear hfz97_0)
    obtain ⟨kq, x57_25, rfl, HA, HJ25, HO_225000, HO_229000, HO_233000, HO_238000, BK210, BK211, BK224, BK228, BK232, BK237, HB⟩ := hcut
    cases kq with
    | zero => exact absurd HA.out (by simp [laws_FnExactBoxMeet.j0])
    | succ kj25 =>
     have H := HA.out
     clear HA
     simp only [laws_FnExactBoxMeet.j0] at H
     by_cases c99 : x57_25 = true
     ·subst c99
      have H1 : (some false) = some r := by rw [if_pos rfl] at H; exact H
      clear H
      have H := H1
      clear H1
      exact absurd (hr.out.trans (Option.some.inj H).symm) (by decide)
     ·replace c99 := Bool.eq_false_iff.mpr c99
      subst c99
      have H1 : ((laws_toBox.f kj25 l1_0).bind fun t239 => ((laws_eqBox.f kj25 t214 t239).bind fun t242 => (if t242 = true then ((laws_toBox.f kj25 l2_0).bind fun t243 => ((laws_eqBox.f kj25 t217 t243).bind fun t246 => (if t246 = true then ((laws_markBox.f kj25 t214 1).bind fun bt247 => ((laws_markBox.f kj25 t217 bt247.1).bind fun bt249 => (if bt249.1 < 0 then (laws_FnExactBoxMeet.j1 kj25 a0 t223 true l1_0 l2_0 t220 t233) else ((laws_eqBox.f kj25 t233 t220).bind fun t251 => (if t251 = true then (laws_FnExactBoxMeet.j1 kj25 a0 t223 (t236 != t223) l1_0 l2_0 t220 t233) else (laws_FnExactBoxMeet.j1 kj25 a0 t223 true l1_0 l2_0 t220 t233)))))) else (some false)))) else (some false)))) = some r := by rw [if_neg (show ¬ (false = true) by decide)] at H; exact H
      clear H
      have H := H1
      clear H1
      replace H := Option.bind_eq_some_iff.mp H
      obtain ⟨t239, A1000, H⟩ := H
      replace H : ((laws_eqBox.f kj25 t214 t239).bind fun t242 => (if t242 = true then ((laws_toBox.f kj25 l2_0).bind fun t243 => ((laws_eqBox.f kj25 t217 t243).bind fun t246 => (if t246 = true then ((laws_markBox.f kj25 t214 1).bind fun bt247 => ((laws_markBox.f kj25 t217 bt247.1).bind fun bt249 => (if bt249.1 < 0 then (laws_FnExactBoxMeet.j1 kj25 a0 t223 true l1_0 l2_0 t220 t233) else ((laws_eqBox.f kj25 t233 t220).bind fun t251 => (if t251 = true then (laws_FnExactBoxMeet.j1 kj25 a0 t223 (t236 != t223) l1_0 l2_0 t220 t233) else (laws_FnExactBoxMeet.j1 kj25 a0 t223 true l1_0 l2_0 t220 t233)))))) else (some false)))) else (some false))) = some r := H
      have A100 := A_ A1000
      clear A1000
      replace H := Option.bind_eq_some_iff.mp H
      obtain ⟨t242, A1010, H⟩ := H
      replace H : (if t242 = true then ((laws_toBox.f kj25 l2_0).bind fun t243 => ((laws_eqBox.f kj25 t217 t243).bind fun t246 => (if t246 = true then ((laws_markBox.f kj25 t214 1).bind fun bt247 => ((laws_markBox.f kj25 t217 bt247.1).bind fun bt249 => (if bt249.1 < 0 then (laws_FnExactBoxMeet.j1 kj25 a0 t223 true l1_0 l2_0 t220 t233) else ((laws_eqBox.f kj25 t233 t220).bind fun t251 => (if t251 = true then (laws_FnExactBoxMeet.j1 kj25 a0 t223 (t236 != t223) l1_0 l2_0 t220 t233) else (laws_FnExactBoxMeet.j1 kj25 a0 t223 true l1_0 l2_0 t220 t233)))))) else (some false)))) else (some false)) = some r := H
      have A101 := A_ A1010
      clear A1010
      by_cases c102 : t242 = true
      ·subst c102
       have H1 : ((laws_toBox.f kj25 l2_0).bind fun t243 => ((laws_eqBox.f kj25 t217 t243).bind fun t246 => (if t246 = true then ((laws_markBox.f kj25 t214 1).bind fun bt247 => ((laws_markBox.f kj25 t217 bt247.1).bind fun bt249 => (if bt249.1 < 0 then (laws_FnExactBoxMeet.j1 kj25 a0 t223 true l1_0 l2_0 t220 t233) else ((laws_eqBox.f kj25 t233 t220).bind fun t251 => (if t251 = true then (laws_FnExactBoxMeet.j1 kj25 a0 t223 (t236 != t223) l1_0 l2_0 t220 t233) else (laws_FnExactBoxMeet.j1 kj25 a0 t223 true l1_0 l2_0 t220 t233)))))) else (some false)))) = some r := by rw [if_pos rfl] at H; exact H
       clear H
       have H := H1
       clear H1
       replace H := Option.bind_eq_some_iff.mp H
       obtain ⟨t243, A1030, H⟩ := H
       replace H : ((laws_eqBox.f kj25 t217 t243).bind fun t246 => (if t246 = true then ((laws_markBox.f kj25 t214 1).bind fun bt247 => ((laws_markBox.f kj25 t217 bt247.1).bind fun bt249 => (if bt249.1 < 0 then (laws_FnExactBoxMeet.j1 kj25 a0 t223 true l1_0 l2_0 t220 t233) else ((laws_eqBox.f kj25 t233 t220).bind fun t251 => (if t251 = true then (laws_FnExactBoxMeet.j1 kj25 a0 t223 (t236 != t223) l1_0 l2_0 t220 t233) else (laws_FnExactBoxMeet.j1 kj25 a0 t223 true l1_0 l2_0 t220 t233)))))) else (some false))) = some r := H
       have A103 := A_ A1030
       clear A1030
       replace H := Option.bind_eq_some_iff.mp H
       obtain ⟨t246, A1040, H⟩ := H
       replace H : (if t246 = true then ((laws_markBox.f kj25 t214 1).bind fun bt247 => ((laws_markBox.f kj25 t217 bt247.1).bind fun bt249 => (if bt249.1 < 0 then (laws_FnExactBoxMeet.j1 kj25 a0 t223 true l1_0 l2_0 t220 t233) else ((laws_eqBox.f kj25 t233 t220).bind fun t251 => (if t251 = true then (laws_FnExactBoxMeet.j1 kj25 a0 t223 (t236 != t223) l1_0 l2_0 t220 t233) else (laws_FnExactBoxMeet.j1 kj25 a0 t223 true l1_0 l2_0 t220 t233)))))) else (some false)) = some r := H
       have A104 := A_ A1040
       clear A1040
       by_cases c105 : t246 = true
       ·subst c105
        have H1 : ((laws_markBox.f kj25 t214 1).bind fun bt247 => ((laws_markBox.f kj25 t217 bt247.1).bind fun bt249 => (if bt249.1 < 0 then (laws_FnExactBoxMeet.j1 kj25 a0 t223 true l1_0 l2_0 t220 t233) else ((laws_eqBox.f kj25 t233 t220).bind fun t251 => (if t251 = true then (laws_FnExactBoxMeet.j1 kj25 a0 t223 (t236 != t223) l1_0 l2_0 t220 t233) else (laws_FnExactBoxMeet.j1 kj25 a0 t223 true l1_0 l2_0 t220 t233)))))) = some r := by rw [if_pos rfl] at H; exact H
        clear H
        have H := H1
        clear H1
        replace H := Option.bind_eq_some_iff.mp H
        obtain ⟨⟨t247, t248⟩, A1060, H⟩ := H
        replace H : ((laws_markBox.f kj25 t217 t247).bind fun bt249 => (if bt249.1 < 0 then (laws_FnExactBoxMeet.j1 kj25 a0 t223 true l1_0 l2_0 t220 t233) else ((laws_eqBox.f kj25 t233 t220).bind fun t251 => (if t251 = true then (laws_FnExactBoxMeet.j1 kj25 a0 t223 (t236 != t223) l1_0 l2_0 t220 t233) else (laws_FnExactBoxMeet.j1 kj25 a0 t223 true l1_0 l2_0 t220 t233))))) = some r := H
        have A106 := A_ A1060
        clear A1060
        replace H := Option.bind_eq_some_iff.mp H
        obtain ⟨⟨t249, t250⟩, A1070, H⟩ := H
        replace H : (if t249 < 0 then (laws_FnExactBoxMeet.j1 kj25 a0 t223 true l1_0 l2_0 t220 t233) else ((laws_eqBox.f kj25 t233 t220).bind fun t251 => (if t251 = true then (laws_FnExactBoxMeet.j1 kj25 a0 t223 (t236 != t223) l1_0 l2_0 t220 t233) else (laws_FnExactBoxMeet.j1 kj25 a0 t223 true l1_0 l2_0 t220 t233)))) = some r := H
        have A107 := A_ A1070
        clear A1070
        have HC108 := A_ H
        clear H
        try go_wp2
        have n0_ := A_ (Kd.R_drew HO_225000.out)
        have n1_ := A_ (Kd.R_drew HO_229000.out)
        have n2_ := A_ (Kd.R_drew HO_233000.out)
        have n3_ := A_ (Kd.R_drew HO_238000.out)
        have n4_ := A_ (blk_drew BK210.out)
        have n5_ := A_ (blk_drew BK211.out)
        have n6_ := A_ (blk_drew BK224.out)
        have n7_ := A_ (blk_drew BK228.out)
        have n8_ := A_ (blk_drew BK232.out)
        have n9_ := A_ (blk_drew BK237.out)
        have n10_ := A_ (below_drew1 HB.out)
        clear HO_225000 HO_229000
        clear HO_233000 HO_238000
        clear BK210 BK211
        clear BK224 BK228
        clear BK232 BK237 HB
        have HO_225000 := n0_
        have HO_229000 := n1_
        have HO_233000 := n2_
        have HO_238000 := n3_
        have BK210 := n4_
        have BK211 := n5_
        have BK224 := n6_
        have BK228 := n7_
        have BK232 := n8_
        have BK237 := n9_
        have HB := n10_
        clear n0_ n1_ n2_ n3_ n4_ n5_ n6_ n7_ n8_ n9_ n10_
        refine start_ (n := 5) (S := fun w' => w'.cell? ⟨gb228, 0, none⟩ = some (.slice Ao48 t214.length co48) ∧ w'.cell? ⟨gb210, 0, none⟩ = some (.slice A1_0 l1_0.length c1_0)) (ds := []) #[false, false, false, false, false] (by kernel_rfl) rfl rfl ⟨(blk_cell BK228.out 0).trans rfl, (blk_cell BK210.out 0).trans rfl⟩ (fun hHeld => ?_)
        generalize wc.drew = w109 at HO_225000 HO_229000 HO_233000 HO_238000 BK210 BK211 BK224 BK228 BK232 BK237 HB hHeld ⊢
        refine take_ (i := 0) (N := some 58) (v := ?_) (a' := ?_) #[true, false, false, false, false] rfl rfl (by kernel_rfl) (fun _ _ _ h => h) (Or.inl ⟨by rfl, ?_⟩) hHeld ?_ ?_
        rotate_left
        ·rintro w' ⟨s0, s1⟩
         go_simp
         with_reducible rfl
        rotate_left
        ·simp only [Act.put, List.setIfInBounds_toArray, List.set_cons_zero, List.set_cons_succ, i64_w, i32_w]
         rfl
        refine take_ (i := 1) (N := some 59) (v := ?_) (a' := ?_) #[true, true, false, false, false] rfl rfl (by kernel_rfl) (fun _ _ _ h => h) (Or.inl ⟨by rfl, ?_⟩) hHeld ?_ ?_
        rotate_left
        ·rintro w' ⟨s0, s1⟩
         go_simp
         with_reducible rfl
        rotate_left
        ·simp only [Act.put, List.setIfInBounds_toArray, List.set_cons_zero, List.set_cons_succ, i64_w, i32_w]
         rfl
        refine one_ (i := 2) (N := some 60) #[true, true, true, false, false] rfl rfl (by kernel_rfl) (by decide) (fun K hK => ?_)
        refine goes_ Try.func15 (by kernel_rfl) rfl #[.agg #[.slice A1_0 l1_0.length c1_0]] (by rfl) rfl rfl (by (try simp only [List.map_toArray, List.map_cons, List.map_nil]); first | done | rfl) ?_
        with_reducible refine (laws_toBox.calls kj25 _ _ l1_0 t239 _ ?side1 ?side2 A100.out).mono ?_
        (case side1 => repeat (first | exact (Kd.C_below HR1_0.out HB.out) | (with_reducible refine Kd.C_alloc ?_ _) | (with_reducible refine Kd.C_drewN ?_ _) | (with_reducible refine Kd.C_drew ?_)))
        (case side2 => exact HC1_0.out)
        rintro e w110 ⟨v240, rfl, ho0, hb⟩
        refine ⟨_, rfl, ?_⟩
        have n0_ := A_ (Kd.R_elder' (rz_ HO_225000.out) (Kd.R_base ho0) hb)
        have n1_ := A_ (Kd.R_elder' (rz_ HO_229000.out) (Kd.R_base ho0) hb)
        have n2_ := A_ (Kd.R_elder' (rz_ HO_233000.out) (Kd.R_base ho0) hb)
        have n3_ := A_ (Kd.R_elder' (rz_ HO_238000.out) (Kd.R_base ho0) hb)
        have n4_ := A_ (Kd.R_lower (Kd.R_new' (Kd.R_new' (Kd.R_new' (Kd.R_new' ho0 (Kd.R_lt (rz_ HO_225000.out))) (Kd.R_lt (rz_ HO_229000.out))) (Kd.R_lt (rz_ HO_233000.out))) (Kd.R_lt (rz_ HO_238000.out))) (below_size (by repeat (first | (with_reducible first | exact HB.out | apply b1_ | apply b2_ | apply b3_ | apply c_ GE210 | apply c_ GE211 | apply c_ GE224 | apply c_ GE228 | apply c_ GE232 | apply c_ GE237) | exact HB.out))))
        have n5_ := A_ (blk_below (bz_ BK210.out) hb)
        have n6_ := A_ (blk_below (bz_ BK211.out) hb)
        have n7_ := A_ (blk_below (bz_ BK224.out) hb)
        have n8_ := A_ (blk_below (bz_ BK228.out) hb)
        have n9_ := A_ (blk_below (bz_ BK232.out) hb)
        have n10_ := A_ (blk_below (bz_ BK237.out) hb)
        have n11_ := A_ (below_step (by repeat (first | (with_reducible first | exact HB.out | apply b1_ | apply b2_ | apply b3_ | apply c_ GE210 | apply c_ GE211 | apply c_ GE224 | apply c_ GE228 | apply c_ GE232 | apply c_ GE237) | exact HB.out)) hb)
        clear HO_225000 HO_229000
        clear HO_233000 HO_238000
        clear BK210 BK211
        clear BK224 BK228
        clear BK232 BK237 HB
        have HO_225000 := n0_
        have HO_229000 := n1_
        have HO_233000 := n2_
        have HO_238000 := n3_
        have HO241 := n4_
        have BK210 := n5_
        have BK211 := n6_
        have BK224 := n7_
        have BK228 := n8_
        have BK232 := n9_
        have BK237 := n10_
        have HB := n11_
        clear n0_ n1_ n2_ n3_ n4_ n5_ n6_ n7_ n8_ n9_ n10_ n11_
        (try clear hb)
        (try clear hb2)
        (try clear hk)
        (try clear hi)
        (try clear ho0)
        obtain ⟨Ao111, co111, eo111⟩ := Kd.R_slice HO241.out
        (first | subst eo111 | (injection eo111 with f1_ f2_ f3_; have f4_ := f1_.symm; have f5_ := f3_.symm; clear f1_ f2_ f3_; subst f4_; subst f5_))
        refine hK.out _ _ ⟨(blk_cell BK228.out 0).trans rfl, (blk_cell BK210.out 0).trans rfl⟩ (fun hHeld => ?_)
        clear hK K
        refine norm_ (a' := ?_) ?_ ?_
        rotate_left
        ·show Act.put _ (some 60) _ = _
         simp only [Act.put, List.setIfInBounds_toArray, List.set_cons_zero, List.set_cons_succ, i64_w, i32_w]
         rfl
        refine one_ (i := 3) (N := some 61) #[true, true, true, true, false] rfl rfl (by kernel_rfl) (by decide) (fun K hK => ?_)
        refine goes_ Try.func17 (by kernel_rfl) rfl #[.agg #[.slice Ao48 t214.length co48], .agg #[.slice Ao111 t239.length co111]] (by rfl) rfl rfl (by (try simp only [List.map_toArray, List.map_cons, List.map_nil]); first | done | rfl) ?_
        with_reducible refine (laws_eqBox.calls kj25 _ _ t214 _ _ t239 true _ ?side1 ?side2 ?side3 ?side4 A101.out).mono ?_
        (case side1 => repeat (first | exact (Kd.R_reads' HO_229000.out).2.2 | (with_reducible refine Kd.C_alloc ?_ _) | (with_reducible refine Kd.C_drewN ?_ _) | (with_reducible refine Kd.C_drew ?_)))
        (case side2 => exact (Kd.R_reads' HO_229000.out).2.1)
        (case side3 => repeat (first | exact (Kd.R_reads' HO241.out).2.2 | (with_reducible refine Kd.C_alloc ?_ _) | (with_reducible refine Kd.C_drewN ?_ _) | (with_reducible refine Kd.C_drew ?_)))
        (case side4 => exact (Kd.R_reads' HO241.out).2.1)
        rintro e w112 ⟨rfl, hb⟩
        refine ⟨_, rfl, ?_⟩
        have n0_ := A_ (Kd.R_below (rz_ HO_225000.out) hb)
        have n1_ := A_ (Kd.R_below (rz_ HO_229000.out) hb)
        have n2_ := A_ (Kd.R_below (rz_ HO_233000.out) hb)
        have n3_ := A_ (Kd.R_below (rz_ HO_238000.out) hb)
        have n4_ := A_ (Kd.R_below (rz_ HO241.out) hb)
        have n5_ := A_ (blk_below (bz_ BK210.out) hb)
        have n6_ := A_ (blk_below (bz_ BK211.out) hb)
        have n7_ := A_ (blk_below (bz_ BK224.out) hb)
        have n8_ := A_ (blk_below (bz_ BK228.out) hb)
        have n9_ := A_ (blk_below (bz_ BK232.out) hb)
        have n10_ := A_ (blk_below (bz_ BK237.out) hb)
        have n11_ := A_ (below_step (by repeat (first | (with_reducible first | exact HB.out | apply b1_ | apply b2_ | apply b3_ | apply c_ GE210 | apply c_ GE211 | apply c_ GE224 | apply c_ GE228 | apply c_ GE232 | apply c_ GE237) | exact HB.out)) hb)
        clear HO_225000 HO_229000
        clear HO_233000 HO_238000
        clear HO241 BK210
        clear BK211 BK224
        clear BK228 BK232
        clear BK237 HB
        have HO_225000 := n0_
        have HO_229000 := n1_
        have HO_233000 := n2_
        have HO_238000 := n3_
        have HO241 := n4_
        have BK210 := n5_
        have BK211 := n6_
        have BK224 := n7_
        have BK228 := n8_
        have BK232 := n9_
        have BK237 := n10_
        have HB := n11_
        clear n0_ n1_ n2_ n3_ n4_ n5_ n6_ n7_ n8_ n9_ n10_ n11_
        (try clear hb)
        (try clear hb2)
        (try clear hk)
        (try clear hi)
        refine hK.out _ _ ⟨(blk_cell BK228.out 0).trans rfl, (blk_cell BK210.out 0).trans rfl⟩ (fun hHeld => ?_)
        clear hK K
        refine norm_ (a' := ?_) ?_ ?_
        rotate_left
        ·show Act.put _ (some 61) _ = _
         simp only [Act.put, List.setIfInBounds_toArray, List.set_cons_zero, List.set_cons_succ, i64_w, i32_w]
         rfl
        refine pure_ (i := 4) (N := some 62) (v := ?_) (a' := ?_) #[true, true, true, true, true] rfl rfl (by kernel_rfl) (fun _ _ _ h => h) (Or.inl ⟨by rfl, ?_⟩) ?_ ?_
        rotate_left
        ·intro w'
         go_simp
         with_reducible rfl
        rotate_left
        ·simp only [Act.put, List.setIfInBounds_toArray, List.set_cons_zero, List.set_cons_succ, i64_w, i32_w]
         rfl
        refine done_ (by kernel_rfl) ?_
        try go_wp2
        have n0_ := A_ (Kd.R_drew HO_225000.out)
        have n1_ := A_ (Kd.R_drew HO_229000.out)
        have n2_ := A_ (Kd.R_drew HO_233000.out)
        have n3_ := A_ (Kd.R_drew HO_238000.out)
        have n4_ := A_ (Kd.R_drew HO241.out)
        have n5_ := A_ (blk_drew BK210.out)
        have n6_ := A_ (blk_drew BK211.out)
        have n7_ := A_ (blk_drew BK224.out)
        have n8_ := A_ (blk_drew BK228.out)
        have n9_ := A_ (blk_drew BK232.out)
        have n10_ := A_ (blk_drew BK237.out)
        have n11_ := A_ (below_drew1 HB.out)
        clear HO_225000 HO_229000
        clear HO_233000 HO_238000
        clear HO241 BK210
        clear BK211 BK224
        clear BK228 BK232
        clear BK237 HB
        have HO_225000 := n0_
        have HO_229000 := n1_
        have HO_233000 := n2_
        have HO_238000 := n3_
        have HO241 := n4_
        have BK210 := n5_
        have BK211 := n6_
        have BK224 := n7_
        have BK228 := n8_
        have BK232 := n9_
        have BK237 := n10_
        have HB := n11_
        clear n0_ n1_ n2_ n3_ n4_ n5_ n6_ n7_ n8_ n9_ n10_ n11_
        refine start_ (n := 5) (S := fun w' => w'.cell? ⟨gb232, 0, none⟩ = some (.slice Ao57 t217.length co57) ∧ w'.cell? ⟨gb211, 0, none⟩ = some (.slice A2_0 l2_0.length c2_0)) (ds := []) #[false, false, false, false, false] (by kernel_rfl) rfl rfl ⟨(blk_cell BK232.out 0).trans rfl, (blk_cell BK211.out 0).trans rfl⟩ (fun hHeld => ?_)
        generalize w112.drew = w113 at HO_225000 HO_229000 HO_233000 HO_238000 HO241 BK210 BK211 BK224 BK228 BK232 BK237 HB hHeld ⊢
        refine take_ (i := 0) (N := some 63) (v := ?_) (a' := ?_) #[true, false, false, false, false] rfl rfl (by kernel_rfl) (fun _ _ _ h => h) (Or.inl ⟨by rfl, ?_⟩) hHeld ?_ ?_
        rotate_left
        ·rintro w' ⟨s0, s1⟩
         go_simp
         with_reducible rfl
        rotate_left
        ·simp only [Act.put, List.setIfInBounds_toArray, List.set_cons_zero, List.set_cons_succ, i64_w, i32_w]
         rfl
        refine take_ (i := 1) (N := some 64) (v := ?_) (a' := ?_) #[true, true, false, false, false] rfl rfl (by kernel_rfl) (fun _ _ _ h => h) (Or.inl ⟨by rfl, ?_⟩) hHeld ?_ ?_
        rotate_left
        ·rintro w' ⟨s0, s1⟩
         go_simp
         with_reducible rfl
        rotate_left
        ·simp only [Act.put, List.setIfInBounds_toArray, List.set_cons_zero, List.set_cons_succ, i64_w, i32_w]
         rfl
        refine one_ (i := 2) (N := some 65) #[true, true, true, false, false] rfl rfl (by kernel_rfl) (by decide) (fun K hK => ?_)
        refine goes_ Try.func15 (by kernel_rfl) rfl #[.agg #[.slice A2_0 l2_0.length c2_0]] (by rfl) rfl rfl (by (try simp only [List.map_toArray, List.map_cons, List.map_nil]); first | done | rfl) ?_
        with_reducible refine (laws_toBox.calls kj25 _ _ l2_0 t243 _ ?side1 ?side2 A103.out).mono ?_
        (case side1 => repeat (first | exact (Kd.C_below HR2_0.out HB.out) | (with_reducible refine Kd.C_alloc ?_ _) | (with_reducible refine Kd.C_drewN ?_ _) | (with_reducible refine Kd.C_drew ?_)))
        (case side2 => exact HC2_0.out)
        rintro e w114 ⟨v244, rfl, ho0, hb⟩
        refine ⟨_, rfl, ?_⟩
        have n0_ := A_ (Kd.R_elder' (rz_ HO_225000.out) (Kd.R_base ho0) hb)
        have n1_ := A_ (Kd.R_elder' (rz_ HO_229000.out) (Kd.R_base ho0) hb)
        have n2_ := A_ (Kd.R_elder' (rz_ HO_233000.out) (Kd.R_base ho0) hb)
        have n3_ := A_ (Kd.R_elder' (rz_ HO_238000.out) (Kd.R_base ho0) hb)
        have n4_ := A_ (Kd.R_elder' (rz_ HO241.out) (Kd.R_base ho0) hb)
        have n5_ := A_ (Kd.R_lower (Kd.R_new' (Kd.R_new' (Kd.R_new' (Kd.R_new' (Kd.R_new' ho0 (Kd.R_lt (rz_ HO_225000.out))) (Kd.R_lt (rz_ HO_229000.out))) (Kd.R_lt (rz_ HO_233000.out))) (Kd.R_lt (rz_ HO_238000.out))) (Kd.R_lt (rz_ HO241.out))) (below_size (by repeat (first | (with_reducible first | exact HB.out | apply b1_ | apply b2_ | apply b3_ | apply c_ GE210 | apply c_ GE211 | apply c_ GE224 | apply c_ GE228 | apply c_ GE232 | apply c_ GE237) | exact HB.out))))
        have n6_ := A_ (blk_below (bz_ BK210.out) hb)
        have n7_ := A_ (blk_below (bz_ BK211.out) hb)
        have n8_ := A_ (blk_below (bz_ BK224.out) hb)
        have n9_ := A_ (blk_below (bz_ BK228.out) hb)
        have n10_ := A_ (blk_below (bz_ BK232.out) hb)
        have n11_ := A_ (blk_below (bz_ BK237.out) hb)
        have n12_ := A_ (below_step (by repeat (first | (with_reducible first | exact HB.out | apply b1_ | apply b2_ | apply b3_ | apply c_ GE210 | apply c_ GE211 | apply c_ GE224 | apply c_ GE228 | apply c_ GE232 | apply c_ GE237) | exact HB.out)) hb)
        clear HO_225000 HO_229000
        clear HO_233000 HO_238000
        clear HO241 BK210
        clear BK211 BK224
        clear BK228 BK232
        clear BK237 HB
        have HO_225000 := n0_
        have HO_229000 := n1_
        have HO_233000 := n2_
        have HO_238000 := n3_
        have HO241 := n4_
        have HO245 := n5_
        have BK210 := n6_
        have BK211 := n7_
        have BK224 := n8_
        have BK228 := n9_
        have BK232 := n10_
        have BK237 := n11_
        have HB := n12_
        clear n0_ n1_ n2_ n3_ n4_ n5_ n6_ n7_ n8_ n9_ n10_ n11_ n12_
        (try clear hb)
        (try clear hb2)
        (try clear hk)
        (try clear hi)
        (try clear ho0)
        obtain ⟨Ao115, co115, eo115⟩ := Kd.R_slice HO245.out
        (first | subst eo115 | (injection eo115 with f1_ f2_ f3_; have f4_ := f1_.symm; have f5_ := f3_.symm; clear f1_ f2_ f3_; subst f4_; subst f5_))
        refine hK.out _ _ ⟨(blk_cell BK232.out 0).trans rfl, (blk_cell BK211.out 0).trans rfl⟩ (fun hHeld => ?_)
        clear hK K
        refine norm_ (a' := ?_) ?_ ?_
        rotate_left
        ·show Act.put _ (some 65) _ = _
         simp only [Act.put, List.setIfInBounds_toArray, List.set_cons_zero, List.set_cons_succ, i64_w, i32_w]
         rfl
        refine one_ (i := 3) (N := some 66) #[true, true, true, true, false] rfl rfl (by kernel_rfl) (by decide) (fun K hK => ?_)
        refine goes_ Try.func17 (by kernel_rfl) rfl #[.agg #[.slice Ao57 t217.length co57], .agg #[.slice Ao115 t243.length co115]] (by rfl) rfl rfl (by (try simp only [List.map_toArray, List.map_cons, List.map_nil]); first | done | rfl) ?_
        with_reducible refine (laws_eqBox.calls kj25 _ _ t217 _ _ t243 true _ ?side1 ?side2 ?side3 ?side4 A104.out).mono ?_
        (case side1 => repeat (first | exact (Kd.R_reads' HO_233000.out).2.2 | (with_reducible refine Kd.C_alloc ?_ _) | (with_reducible refine Kd.C_drewN ?_ _) | (with_reducible refine Kd.C_drew ?_)))
        (case side2 => exact (Kd.R_reads' HO_233000.out).2.1)
        (case side3 => repeat (first | exact (Kd.R_reads' HO245.out).2.2 | (with_reducible refine Kd.C_alloc ?_ _) | (with_reducible refine Kd.C_drewN ?_ _) | (with_reducible refine Kd.C_drew ?_)))
        (case side4 => exact (Kd.R_reads' HO245.out).2.1)
        rintro e w116 ⟨rfl, hb⟩
        refine ⟨_, rfl, ?_⟩
        have n0_ := A_ (Kd.R_below (rz_ HO_225000.out) hb)
        have n1_ := A_ (Kd.R_below (rz_ HO_229000.out) hb)
        have n2_ := A_ (Kd.R_below (rz_ HO_233000.out) hb)
        have n3_ := A_ (Kd.R_below (rz_ HO_238000.out) hb)
        have n4_ := A_ (Kd.R_below (rz_ HO241.out) hb)
        have n5_ := A_ (Kd.R_below (rz_ HO245.out) hb)
        have n6_ := A_ (blk_below (bz_ BK210.out) hb)
        have n7_ := A_ (blk_below (bz_ BK211.out) hb)
        have n8_ := A_ (blk_below (bz_ BK224.out) hb)
        have n9_ := A_ (blk_below (bz_ BK228.out) hb)
        have n10_ := A_ (blk_below (bz_ BK232.out) hb)
        have n11_ := A_ (blk_below (bz_ BK237.out) hb)
        have n12_ := A_ (below_step (by repeat (first | (with_reducible first | exact HB.out | apply b1_ | apply b2_ | apply b3_ | apply c_ GE210 | apply c_ GE211 | apply c_ GE224 | apply c_ GE228 | apply c_ GE232 | apply c_ GE237) | exact HB.out)) hb)
        clear HO_225000 HO_229000
        clear HO_233000 HO_238000
        clear HO241 HO245
        clear BK210 BK211
        clear BK224 BK228
        clear BK232 BK237 HB
        have HO_225000 := n0_
        have HO_229000 := n1_
        have HO_233000 := n2_
        have HO_238000 := n3_
        have HO241 := n4_
        have HO245 := n5_
        have BK210 := n6_
        have BK211 := n7_
        have BK224 := n8_
        have BK228 := n9_
        have BK232 := n10_
        have BK237 := n11_
        have HB := n12_
        clear n0_ n1_ n2_ n3_ n4_ n5_ n6_ n7_ n8_ n9_ n10_ n11_ n12_
        (try clear hb)
        (try clear hb2)
        (try clear hk)
        (try clear hi)
        refine hK.out _ _ ⟨(blk_cell BK232.out 0).trans rfl, (blk_cell BK211.out 0).trans rfl⟩ (fun hHeld => ?_)
        clear hK K
        refine norm_ (a' := ?_) ?_ ?_
        rotate_left
        ·show Act.put _ (some 66) _ = _
         simp only [Act.put, List.setIfInBounds_toArray, List.set_cons_zero, List.set_cons_succ, i64_w, i32_w]
         rfl
        refine pure_ (i := 4) (N := some 67) (v := ?_) (a' := ?_) #[true, true, true, true, true] rfl rfl (by kernel_rfl) (fun _ _ _ h => h) (Or.inl ⟨by rfl, ?_⟩) ?_ ?_
        rotate_left
        ·intro w'
         go_simp
         with_reducible rfl
        rotate_left
        ·simp only [Act.put, List.setIfInBounds_toArray, List.set_cons_zero, List.set_cons_succ, i64_w, i32_w]
         rfl
        refine done_ (by kernel_rfl) ?_
        have hnb117 := NB228_210.out
        have hnc117 := NB210_228.out
        have hnb118 := NB228_211.out
        have hnc118 := NB211_228.out
        have hnb119 := NB228_224.out
        have hnc119 := NB224_228.out
        have hnb120 := NB228_232.out
        have hnc120 := NB232_228.out
        have hnb121 := NB228_237.out
        have hnc121 := NB237_228.out
        have hcz122_0 : w116.cell? ⟨gb228, 0, none⟩ = some (.slice Ao48 t214.length co48) := (blk_cell BK228.out 0).trans rfl
        have hfz122_0 := blk_frozen BK228.out 0
        go_upto_region 21 with (first | ((with_reducible refine gate_callee (f := 23) rfl ?_); refine goesL_ (some 70) rfl rfl Try.func23 (by kernel_rfl) rfl #[.agg #[.slice Ao48 t214.length co48], .int .i64 1] rfl (by (try simp only [List.map_toArray, List.map_cons, List.map_nil]); first | done | rfl) ?_; (with_reducible refine (laws_markBox.calls kj25 (fun k_ => some k_ = (.slice Ao48 t214.length co48 : Value).ownBlock) (.slice Ao48 t214.length co48) t214 1 t247 t248 w _ ?side1 ?side2 A106.out).mono ?_); (case side1 => repeat (first | (with_reducible first | exact HB.out | apply b1_ | apply b2_ | apply b3_ | apply c_ GE210 | apply c_ GE211 | apply c_ GE224 | apply c_ GE228 | apply c_ GE232 | apply c_ GE237) | exact HB.out)); (case side2 => exact Kd.R_tight rfl HO_229000.out); rintro e w123 ⟨rfl, hy0, hb, hkp⟩; refine ⟨_, rfl, ?_⟩; have n0_ := A_ (Kd.R_mono (ok' := fun k_ => some k_ ≠ (.slice Ao48 t214.length co48 : Value).ownBlock ∧ some k_ ≠ (.slice Ao57 t217.length co57 : Value).ownBlock ∧ some k_ ≠ (.slice Ao66 t233.length co66 : Value).ownBlock ∧ some k_ ≠ (.slice Ao111 t239.length co111 : Value).ownBlock ∧ some k_ ≠ (.slice Ao115 t243.length co115 : Value).ownBlock) (Kd.R_keptB (HO_225000.out) hkp (fun k_ hk_ hs_ => (hk_.1.1.1) hs_)) (fun k_ hk_ => ⟨hk_.1.1.1.1, hk_.1.1.1.2.1, hk_.1.1.1.2.2, hk_.1.1.2, hk_.1.2⟩)); have n1_ := A_ (Kd.R_reok rfl hy0 (fun k_ e_ => HO_229000.out.1 k_ e_)); have n2_ := A_ (Kd.R_mono (ok' := fun k_ => some k_ ≠ (.slice Ao42 t220.length co42 : Value).ownBlock ∧ some k_ ≠ (.slice Ao48 t214.length co48 : Value).ownBlock ∧ some k_ ≠ (.slice Ao66 t233.length co66 : Value).ownBlock ∧ some k_ ≠ (.slice Ao111 t239.length co111 : Value).ownBlock ∧ some k_ ≠ (.slice Ao115 t243.length co115 : Value).ownBlock) (Kd.R_keptB (HO_233000.out) hkp (fun k_ hk_ hs_ => (hk_.1.1.2.1) hs_)) (fun k_ hk_ => ⟨hk_.1.1.1.1, hk_.1.1.1.2.1, hk_.1.1.1.2.2, hk_.1.1.2, hk_.1.2⟩)); have n3_ := A_ (Kd.R_mono (ok' := fun k_ => some k_ ≠ (.slice Ao42 t220.length co42 : Value).ownBlock ∧ some k_ ≠ (.slice Ao48 t214.length co48 : Value).ownBlock ∧ some k_ ≠ (.slice Ao57 t217.length co57 : Value).ownBlock ∧ some k_ ≠ (.slice Ao111 t239.length co111 : Value).ownBlock ∧ some k_ ≠ (.slice Ao115 t243.length co115 : Value).ownBlock) (Kd.R_keptB (HO_238000.out) hkp (fun k_ hk_ hs_ => (hk_.1.1.2.1) hs_)) (fun k_ hk_ => ⟨hk_.1.1.1.1, hk_.1.1.1.2.1, hk_.1.1.1.2.2, hk_.1.1.2, hk_.1.2⟩)); have n4_ := A_ (blk_kept (bz_ BK210.out) hkp (fun hs_ => (fun e_ => (Kd.R_ne HO_229000.out BK210.out (by decide)) e_) hs_)); have n5_ := A_ (blk_kept (bz_ BK211.out) hkp (fun hs_ => (fun e_ => (Kd.R_ne HO_229000.out BK211.out (by decide)) e_) hs_)); have n6_ := A_ (blk_kept (bz_ BK224.out) hkp (fun hs_ => (fun e_ => (Kd.R_ne HO_229000.out BK224.out (by decide)) e_) hs_)); have n7_ := A_ (blk_kept (bz_ BK228.out) hkp (fun hs_ => (fun e_ => (Kd.R_ne HO_229000.out BK228.out (by decide)) e_) hs_)); have n8_ := A_ (blk_kept (bz_ BK232.out) hkp (fun hs_ => (fun e_ => (Kd.R_ne HO_229000.out BK232.out (by decide)) e_) hs_)); have n9_ := A_ (blk_kept (bz_ BK237.out) hkp (fun hs_ => (fun e_ => (Kd.R_ne HO_229000.out BK237.out (by decide)) e_) hs_)); have n10_ := A_ (Kd.R_mono (ok' := fun k_ => some k_ ≠ (.slice Ao42 t220.length co42 : Value).ownBlock ∧ some k_ ≠ (.slice Ao48 t214.length co48 : Value).ownBlock ∧ some k_ ≠ (.slice Ao57 t217.length co57 : Value).ownBlock ∧ some k_ ≠ (.slice Ao66 t233.length co66 : Value).ownBlock ∧ some k_ ≠ (.slice Ao115 t243.length co115 : Value).ownBlock) (Kd.R_keptB (HO241.out) hkp (fun k_ hk_ hs_ => (hk_.1.1.1.2) hs_)) (fun k_ hk_ => ⟨hk_.1.1.1.1.1.2, hk_.1.1.1.1.2, hk_.1.1.1.2, hk_.1.1.2, hk_.1.2⟩)); have n11_ := A_ (Kd.R_mono (ok' := fun k_ => some k_ ≠ (.slice Ao42 t220.length co42 : Value).ownBlock ∧ some k_ ≠ (.slice Ao48 t214.length co48 : Value).ownBlock ∧ some k_ ≠ (.slice Ao57 t217.length co57 : Value).ownBlock ∧ some k_ ≠ (.slice Ao66 t233.length co66 : Value).ownBlock ∧ some k_ ≠ (.slice Ao111 t239.length co111 : Value).ownBlock) (Kd.R_keptB (HO245.out) hkp (fun k_ hk_ hs_ => (hk_.1.1.1.2) hs_)) (fun k_ hk_ => ⟨hk_.1.1.1.1.1.2, hk_.1.1.1.1.2, hk_.1.1.1.2, hk_.1.1.2, hk_.1.2⟩)); have n12_ := A_ (hb); clear HO_225000 HO_229000 HO_233000 HO_238000 BK210 BK211 BK224 BK228 BK232 BK237 HO241 HO245 HB; have HO_225000 := n0_; have HO_229000 := n1_; have HO_233000 := n2_; have HO_238000 := n3_; have BK210 := n4_; have BK211 := n5_; have BK224 := n6_; have BK228 := n7_; have BK232 := n8_; have BK237 := n9_; have HO241 := n10_; have HO245 := n11_; have HB := n12_; clear n0_ n1_ n2_ n3_ n4_ n5_ n6_ n7_ n8_ n9_ n10_ n11_ n12_; (try clear hb); (try clear hkp); (try clear hy0); have hnb124 := NB232_210.out; have hnc124 := NB210_232.out; have hnb125 := NB232_211.out; have hnc125 := NB211_232.out; have hnb126 := NB232_224.out; have hnc126 := NB224_232.out; have hnb127 := NB232_237.out; have hnc127 := NB237_232.out; have hcz128_0 : w123.cell? ⟨gb232, 0, none⟩ = some (.slice Ao57 t217.length co57) := (blk_cell BK232.out 0).trans rfl; have hfz128_0 := blk_frozen BK232.out 0) | ((with_reducible refine gate_callee (f := 23) rfl ?_); refine goesL_ (some 73) rfl rfl Try.func23 (by kernel_rfl) rfl #[.agg #[.slice Ao57 t217.length co57], .int .i64 t247] rfl (by (try simp only [List.map_toArray, List.map_cons, List.map_nil]); first | done | rfl) ?_; (with_reducible refine (laws_markBox.calls kj25 (fun k_ => some k_ = (.slice Ao57 t217.length co57 : Value).ownBlock) (.slice Ao57 t217.length co57) t217 t247 t249 t250 w _ ?side1 ?side2 A107.out).mono ?_); (case side1 => repeat (first | (with_reducible first | exact HB.out | apply b1_ | apply b2_ | apply b3_ | apply c_ GE210 | apply c_ GE211 | apply c_ GE224 | apply c_ GE228 | apply c_ GE232 | apply c_ GE237) | exact HB.out)); (case side2 => exact Kd.R_tight rfl HO_233000.out); rintro e w129 ⟨rfl, hy0, hb, hkp⟩; refine ⟨_, rfl, ?_⟩; have n0_ := A_ (Kd.R_mono (ok' := fun k_ => some k_ ≠ (.slice Ao48 t214.length co48 : Value).ownBlock ∧ some k_ ≠ (.slice Ao57 t217.length co57 : Value).ownBlock ∧ some k_ ≠ (.slice Ao66 t233.length co66 : Value).ownBlock ∧ some k_ ≠ (.slice Ao111 t239.length co111 : Value).ownBlock ∧ some k_ ≠ (.slice Ao115 t243.length co115 : Value).ownBlock) (Kd.R_keptB (HO_225000.out) hkp (fun k_ hk_ hs_ => (hk_.2.1) hs_)) (fun k_ hk_ => ⟨hk_.1.1, hk_.1.2.1, hk_.1.2.2.1, hk_.1.2.2.2.1, hk_.1.2.2.2.2⟩)); have n1_ := A_ (Kd.R_mono (ok' := fun k_ => some k_ ≠ (.slice Ao42 t220.length co42 : Value).ownBlock ∧ some k_ ≠ (.slice Ao57 t217.length co57 : Value).ownBlock ∧ some k_ ≠ (.slice Ao66 t233.length co66 : Value).ownBlock ∧ some k_ ≠ (.slice Ao111 t239.length co111 : Value).ownBlock ∧ some k_ ≠ (.slice Ao115 t243.length co115 : Value).ownBlock) (Kd.R_keptB (HO_229000.out) hkp (fun k_ hk_ hs_ => (hk_.1.1.2.1) hs_)) (fun k_ hk_ => ⟨hk_.1.1.1.1, hk_.1.1.1.2.1, hk_.1.1.1.2.2, hk_.1.1.2, hk_.1.2⟩)); have n2_ := A_ (Kd.R_reok rfl hy0 (fun k_ e_ => HO_233000.out.1 k_ e_)); have n3_ := A_ (Kd.R_mono (ok' := fun k_ => some k_ ≠ (.slice Ao42 t220.length co42 : Value).ownBlock ∧ some k_ ≠ (.slice Ao48 t214.length co48 : Value).ownBlock ∧ some k_ ≠ (.slice Ao57 t217.length co57 : Value).ownBlock ∧ some k_ ≠ (.slice Ao111 t239.length co111 : Value).ownBlock ∧ some k_ ≠ (.slice Ao115 t243.length co115 : Value).ownBlock) (Kd.R_keptB (HO_238000.out) hkp (fun k_ hk_ hs_ => (hk_.2.2.1) hs_)) (fun k_ hk_ => ⟨hk_.1.1, hk_.1.2.1, hk_.1.2.2.1, hk_.1.2.2.2.1, hk_.1.2.2.2.2⟩)); have n4_ := A_ (blk_kept (bz_ BK210.out) hkp (fun hs_ => (fun e_ => (Kd.R_ne HO_233000.out BK210.out (by decide)) e_) hs_)); have n5_ := A_ (blk_kept (bz_ BK211.out) hkp (fun hs_ => (fun e_ => (Kd.R_ne HO_233000.out BK211.out (by decide)) e_) hs_)); have n6_ := A_ (blk_kept (bz_ BK224.out) hkp (fun hs_ => (fun e_ => (Kd.R_ne HO_233000.out BK224.out (by decide)) e_) hs_)); have n7_ := A_ (blk_kept (bz_ BK228.out) hkp (fun hs_ => (fun e_ => (Kd.R_ne HO_233000.out BK228.out (by decide)) e_) hs_)); have n8_ := A_ (blk_kept (bz_ BK232.out) hkp (fun hs_ => (fun e_ => (Kd.R_ne HO_233000.out BK232.out (by decide)) e_) hs_)); have n9_ := A_ (blk_kept (bz_ BK237.out) hkp (fun hs_ => (fun e_ => (Kd.R_ne HO_233000.out BK237.out (by decide)) e_) hs_)); have n10_ := A_ (Kd.R_mono (ok' := fun k_ => some k_ ≠ (.slice Ao42 t220.length co42 : Value).ownBlock ∧ some k_ ≠ (.slice Ao48 t214.length co48 : Value).ownBlock ∧ some k_ ≠ (.slice Ao57 t217.length co57 : Value).ownBlock ∧ some k_ ≠ (.slice Ao66 t233.length co66 : Value).ownBlock ∧ some k_ ≠ (.slice Ao115 t243.length co115 : Value).ownBlock) (Kd.R_keptB (HO241.out) hkp (fun k_ hk_ hs_ => (hk_.2.2.1) hs_)) (fun k_ hk_ => ⟨hk_.1.1, hk_.1.2.1, hk_.1.2.2.1, hk_.1.2.2.2.1, hk_.1.2.2.2.2⟩)); have n11_ := A_ (Kd.R_mono (ok' := fun k_ => some k_ ≠ (.slice Ao42 t220.length co42 : Value).ownBlock ∧ some k_ ≠ (.slice Ao48 t214.length co48 : Value).ownBlock ∧ some k_ ≠ (.slice Ao57 t217.length co57 : Value).ownBlock ∧ some k_ ≠ (.slice Ao66 t233.length co66 : Value).ownBlock ∧ some k_ ≠ (.slice Ao111 t239.length co111 : Value).ownBlock) (Kd.R_keptB (HO245.out) hkp (fun k_ hk_ hs_ => (hk_.2.2.1) hs_)) (fun k_ hk_ => ⟨hk_.1.1, hk_.1.2.1, hk_.1.2.2.1, hk_.1.2.2.2.1, hk_.1.2.2.2.2⟩)); have n12_ := A_ (hb); clear HO_225000 HO_229000 HO_233000 HO_238000 BK210 BK211 BK224 BK228 BK232 BK237 HO241 HO245 HB; have HO_225000 := n0_; have HO_229000 := n1_; have HO_233000 := n2_; have HO_238000 := n3_; have BK210 := n4_; have BK211 := n5_; have BK224 := n6_; have BK228 := n7_; have BK232 := n8_; have BK237 := n9_; have HO241 := n10_; have HO245 := n11_; have HB := n12_; clear n0_ n1_ n2_ n3_ n4_ n5_ n6_ n7_ n8_ n9_ n10_ n11_ n12_; (try clear hb); (try clear hkp); (try clear hy0)))
        (try simp only [Act.put, List.setIfInBounds_toArray, List.set_cons_zero, List.set_cons_succ])
        go_cut [86] (fun v86 wc => ∃ (kq : Nat) (x86_107 : Bool), v86 = .bool x86_107 ∧ Aside0 (laws_FnExactBoxMeet.j1 kq a0 t223 x86_107 l1_0 l2_0 t220 t233 = some r) ∧ Aside0 (kq ≤ kj25) ∧ Aside0 (Kd.R k64 64 wc w.heap.size (fun k_ => some k_ ≠ ((.slice Ao48 t214.length co48) : Value).ownBlock ∧ some k_ ≠ ((.slice Ao57 t217.length co57) : Value).ownBlock ∧ some k_ ≠ ((.slice Ao66 t233.length co66) : Value).ownBlock) (.slice Ao42 t220.length co42) t220) ∧ Aside0 (Kd.R k64 64 wc w.heap.size (fun k_ => some k_ ≠ ((.slice Ao42 t220.length co42) : Value).ownBlock ∧ some k_ ≠ ((.slice Ao57 t217.length co57) : Value).ownBlock ∧ some k_ ≠ ((.slice Ao66 t233.length co66) : Value).ownBlock) (.slice Ao48 t214.length co48) t248) ∧ Aside0 (Kd.R k64 64 wc w.heap.size (fun k_ => some k_ ≠ ((.slice Ao42 t220.length co42) : Value).ownBlock ∧ some k_ ≠ ((.slice Ao48 t214.length co48) : Value).ownBlock ∧ some k_ ≠ ((.slice Ao66 t233.length co66) : Value).ownBlock) (.slice Ao57 t217.length co57) t250) ∧ Aside0 (Kd.R k64 64 wc w.heap.size (fun k_ => some k_ ≠ ((.slice Ao42 t220.length co42) : Value).ownBlock ∧ some k_ ≠ ((.slice Ao48 t214.length co48) : Value).ownBlock ∧ some k_ ≠ ((.slice Ao57 t217.length co57) : Value).ownBlock) (.slice Ao66 t233.length co66) t233) ∧ Aside0 (wc.heap[gb210]? = some (.cells #[(.slice A1_0 l1_0.length c1_0)] 32 (0, 0))) ∧ Aside0 (wc.heap[gb211]? = some (.cells #[(.slice A2_0 l2_0.length c2_0)] 32 (0, 0))) ∧ Aside0 (wc.heap[gb224]? = some (.cells #[(.slice Ao42 t220.length co42)] 37 (0, 0))) ∧ Aside0 (wc.heap[gb228]? = some (.cells #[(.slice Ao48 t214.length co48)] 37 (0, 0))) ∧ Aside0 (wc.heap[gb232]? = some (.cells #[(.slice Ao57 t217.length co57)] 37 (0, 0))) ∧ Aside0 (wc.heap[gb237]? = some (.cells #[(.slice Ao66 t233.length co66)] 37 (0, 0))) ∧ Aside0 (Below w.heap.size w wc))
        case first =>
         have H := HC108.out
         clear HC108
         by_cases c130 : t249 < 0
         ·rw [if_pos c130] at H
          have c130b0 : decide (t249 < 0) = true := decide_eq_true c130
          clear c130
          (first | rw [c130b0] | (simp only [i64_w, i32_w]; rw [c130b0]) | skip)
          have H' := A_ H
          clear H
          go_wp2
          go_meet
          case rel => exact ⟨_, (true), (by first | rfl | (simp; done) | (simp [*]; done)), H', ⟨by have := HJ25.out; first | omega | exact Nat.le_refl _⟩, ⟨by (with_reducible repeat (first | apply Kd.R_alloc | apply Kd.R_drewN | apply Kd.R_drew)); exact Kd.R_mono HO_225000.out (fun _ hk => ⟨hk.1, ⟨hk.2.1, hk.2.2.1⟩⟩)⟩, ⟨by (with_reducible repeat (first | apply Kd.R_alloc | apply Kd.R_drewN | apply Kd.R_drew)); exact Kd.R_mono HO_229000.out (fun _ hk => ⟨hk.1, ⟨hk.2.1, hk.2.2.1⟩⟩)⟩, ⟨by (with_reducible repeat (first | apply Kd.R_alloc | apply Kd.R_drewN | apply Kd.R_drew)); exact Kd.R_mono HO_233000.out (fun _ hk => ⟨hk.1, ⟨hk.2.1, hk.2.2.1⟩⟩)⟩, ⟨by (with_reducible repeat (first | apply Kd.R_alloc | apply Kd.R_drewN | apply Kd.R_drew)); exact Kd.R_mono HO_238000.out (fun _ hk => ⟨hk.1, ⟨hk.2.1, hk.2.2.1⟩⟩)⟩, ⟨by (with_reducible repeat (first | apply bn_ | apply bd_ | apply ba_)); exact BK210.out⟩, ⟨by (with_reducible repeat (first | apply bn_ | apply bd_ | apply ba_)); exact BK211.out⟩, ⟨by (with_reducible repeat (first | apply bn_ | apply bd_ | apply ba_)); exact BK224.out⟩, ⟨by (with_reducible repeat (first | apply bn_ | apply bd_ | apply ba_)); exact BK228.out⟩, ⟨by (with_reducible repeat (first | apply bn_ | apply bd_ | apply ba_)); exact BK232.out⟩, ⟨by (with_reducible repeat (first | apply bn_ | apply bd_ | apply ba_)); exact BK237.out⟩, ⟨by repeat (first | (with_reducible first | exact HB.out | apply b1_ | apply b2_ | apply b3_ | apply c_ GE210 | apply c_ GE211 | apply c_ GE224 | apply c_ GE228 | apply c_ GE232 | apply c_ GE237) | exact HB.out)⟩⟩
         ·rw [if_neg c130] at H
          have c130b0 : decide (t249 < 0) = false := decide_eq_false c130
          clear c130
          (first | rw [c130b0] | (simp only [i64_w, i32_w]; rw [c130b0]) | skip)
          replace H := Option.bind_eq_some_iff.mp H
          obtain ⟨t251, A1310, H⟩ := H
          replace H : (if t251 = true then (laws_FnExactBoxMeet.j1 kj25 a0 t223 (t236 != t223) l1_0 l2_0 t220 t233) else (laws_FnExactBoxMeet.j1 kj25 a0 t223 true l1_0 l2_0 t220 t233)) = some r := H
          have A131 := A_ A1310
          clear A1310
          by_cases c132 : t251 = true
          ·subst c132
           have H1 : (laws_FnExactBoxMeet.j1 kj25 a0 t223 (t236 != t223) l1_0 l2_0 t220 t233) = some r := by rw [if_pos rfl] at H; exact H
           clear H
           have H := H1
           clear H1
           have H' := A_ H
           clear H
           have hnb133 := NB237_210.out
           have hnc133 := NB210_237.out
           have hnb134 := NB237_211.out
           have hnc134 := NB211_237.out
           have hnb135 := NB237_224.out
           have hnc135 := NB224_237.out
           have hnb136 := NB237_228.out
           have hnc136 := NB228_237.out
           have hnb137 := NB237_232.out
           have hnc137 := NB232_237.out
           have hcz138_0 : w129.cell? ⟨gb237, 0, none⟩ = some (.slice Ao66 t233.length co66) := (blk_cell BK237.out 0).trans rfl
           have hfz138_0 := blk_frozen BK237.out 0
           have hnb139 := NB224_210.out
           have hnc139 := NB210_224.out
           have hnb140 := NB224_211.out
           have hnc140 := NB211_224.out
           have hnb141 := NB224_228.out
           have hnc141 := NB228_224.out
           have hnb142 := NB224_232.out
           have hnc142 := NB232_224.out
           have hcz143_0 : w129.cell? ⟨gb224, 0, none⟩ = some (.slice Ao42 t220.length co42) := (blk_cell BK224.out 0).trans rfl
           have hfz143_0 := blk_frozen BK224.out 0
           go_wp2_with (first | (go_at_call 17; (with_reducible refine (laws_eqBox.calls kj25 _ _ t233 _ _ t220 true _ ?side1 ?side2 ?side3 ?side4 A131.out).mono ?_); (case side1 => repeat (first | exact (Kd.R_reads' HO_238000.out).2.2 | (with_reducible refine Kd.C_alloc ?_ _) | (with_reducible refine Kd.C_drewN ?_ _) | (with_reducible refine Kd.C_drew ?_))); (case side2 => exact (Kd.R_reads' HO_238000.out).2.1); (case side3 => repeat (first | exact (Kd.R_reads' HO_225000.out).2.2 | (with_reducible refine Kd.C_alloc ?_ _) | (with_reducible refine Kd.C_drewN ?_ _) | (with_reducible refine Kd.C_drew ?_))); (case side4 => exact (Kd.R_reads' HO_225000.out).2.1); rintro e w144 ⟨rfl, hb⟩; have n0_ := A_ (Kd.R_below (rz_ HO_225000.out) hb); have n1_ := A_ (Kd.R_below (rz_ HO_229000.out) hb); have n2_ := A_ (Kd.R_below (rz_ HO_233000.out) hb); have n3_ := A_ (Kd.R_below (rz_ HO_238000.out) hb); have n4_ := A_ (Kd.R_below (rz_ HO241.out) hb); have n5_ := A_ (Kd.R_below (rz_ HO245.out) hb); have n6_ := A_ (blk_below (bz_ BK210.out) hb); have n7_ := A_ (blk_below (bz_ BK211.out) hb); have n8_ := A_ (blk_below (bz_ BK224.out) hb); have n9_ := A_ (blk_below (bz_ BK228.out) hb); have n10_ := A_ (blk_below (bz_ BK232.out) hb); have n11_ := A_ (blk_below (bz_ BK237.out) hb); have n12_ := A_ (below_step (by repeat (first | (with_reducible first | exact HB.out | apply b1_ | apply b2_ | apply b3_ | apply c_ GE210 | apply c_ GE211 | apply c_ GE224 | apply c_ GE228 | apply c_ GE232 | apply c_ GE237) | exact HB.out)) hb); clear HO_225000 HO_229000 HO_233000 HO_238000 HO241 HO245 BK210 BK211 BK224 BK228 BK232 BK237 HB; have HO_225000 := n0_; have HO_229000 := n1_; have HO_233000 := n2_; have HO_238000 := n3_; have HO241 := n4_; have HO245 := n5_; have BK210 := n6_; have BK211 := n7_; have BK224 := n8_; have BK228 := n9_; have BK232 := n10_; have BK237 := n11_; have HB := n12_; clear n0_ n1_ n2_ n3_ n4_ n5_ n6_ n7_ n8_ n9_ n10_ n11_ n12_; (try clear hb); (try clear hb2); (try clear hk); (try clear hi)))
           go_meet
           case rel => exact ⟨_, ((t236 != t223)), (by first | rfl | (simp; done) | (simp [*]; done)), H', ⟨by have := HJ25.out; first | omega | exact Nat.le_refl _⟩, ⟨by (with_reducible repeat (first | apply Kd.R_alloc | apply Kd.R_drewN | apply Kd.R_drew)); exact Kd.R_mono HO_225000.out (fun _ hk => ⟨hk.1, ⟨hk.2.1, hk.2.2.1⟩⟩)⟩, ⟨by (with_reducible repeat (first | apply Kd.R_alloc | apply Kd.R_drewN | apply Kd.R_drew)); exact Kd.R_mono HO_229000.out (fun _ hk => ⟨hk.1, ⟨hk.2.1, hk.2.2.1⟩⟩)⟩, ⟨by (with_reducible repeat (first | apply Kd.R_alloc | apply Kd.R_drewN | apply Kd.R_drew)); exact Kd.R_mono HO_233000.out (fun _ hk => ⟨hk.1, ⟨hk.2.1, hk.2.2.1⟩⟩)⟩, ⟨by (with_reducible repeat (first | apply Kd.R_alloc | apply Kd.R_drewN | apply Kd.R_drew)); exact Kd.R_mono HO_238000.out (fun _ hk => ⟨hk.1, ⟨hk.2.1, hk.2.2.1⟩⟩)⟩, ⟨by (with_reducible repeat (first | apply bn_ | apply bd_ | apply ba_)); exact BK210.out⟩, ⟨by (with_reducible repeat (first | apply bn_ | apply bd_ | apply ba_)); exact BK211.out⟩, ⟨by (with_reducible repeat (first | apply bn_ | apply bd_ | apply ba_)); exact BK224.out⟩, ⟨by (with_reducible repeat (first | apply bn_ | apply bd_ | apply ba_)); exact BK228.out⟩, ⟨by (with_reducible repeat (first | apply bn_ | apply bd_ | apply ba_)); exact BK232.out⟩, ⟨by (with_reducible repeat (first | apply bn_ | apply bd_ | apply ba_)); exact BK237.out⟩, ⟨by repeat (first | (with_reducible first | exact HB.out | apply b1_ | apply b2_ | apply b3_ | apply c_ GE210 | apply c_ GE211 | apply c_ GE224 | apply c_ GE228 | apply c_ GE232 | apply c_ GE237) | exact HB.out)⟩⟩
          ·replace c132 := Bool.eq_false_iff.mpr c132
           subst c132
           have H1 : (laws_FnExactBoxMeet.j1 kj25 a0 t223 true l1_0 l2_0 t220 t233) = some r := by rw [if_neg (show ¬ (false = true) by decide)] at H; exact H
           clear H
           have H := H1
           clear H1
           have H' := A_ H
           clear H
           have hnb145 := NB237_210.out
           have hnc145 := NB210_237.out
           have hnb146 := NB237_211.out
           have hnc146 := NB211_237.out
           have hnb147 := NB237_224.out
           have hnc147 := NB224_237.out
           have hnb148 := NB237_228.out
           have hnc148 := NB228_237.out
           have hnb149 := NB237_232.out
           have hnc149 := NB232_237.out
           have hcz150_0 : w129.cell? ⟨gb237, 0, none⟩ = some (.slice Ao66 t233.length co66) := (blk_cell BK237.out 0).trans rfl
           have hfz150_0 := blk_frozen BK237.out 0
           have hnb151 := NB224_210.out
           have hnc151 := NB210_224.out
           have hnb152 := NB224_211.out
           have hnc152 := NB211_224.out
           have hnb153 := NB224_228.out
           have hnc153 := NB228_224.out
           have hnb154 := NB224_232.out
           have hnc154 := NB232_224.out
           have hcz155_0 : w129.cell? ⟨gb224, 0, none⟩ = some (.slice Ao42 t220.length co42) := (blk_cell BK224.out 0).trans rfl
           have hfz155_0 := blk_frozen BK224.out 0
           go_wp2_with (first | (go_at_call 17; (with_reducible refine (laws_eqBox.calls kj25 _ _ t233 _ _ t220 false _ ?side1 ?side2 ?side3 ?side4 A131.out).mono ?_); (case side1 => repeat (first | exact (Kd.R_reads' HO_238000.out).2.2 | (with_reducible refine Kd.C_alloc ?_ _) | (with_reducible refine Kd.C_drewN ?_ _) | (with_reducible refine Kd.C_drew ?_))); (case side2 => exact (Kd.R_reads' HO_238000.out).2.1); (case side3 => repeat (first | exact (Kd.R_reads' HO_225000.out).2.2 | (with_reducible refine Kd.C_alloc ?_ _) | (with_reducible refine Kd.C_drewN ?_ _) | (with_reducible refine Kd.C_drew ?_))); (case side4 => exact (Kd.R_reads' HO_225000.out).2.1); rintro e w156 ⟨rfl, hb⟩; have n0_ := A_ (Kd.R_below (rz_ HO_225000.out) hb); have n1_ := A_ (Kd.R_below (rz_ HO_229000.out) hb); have n2_ := A_ (Kd.R_below (rz_ HO_233000.out) hb); have n3_ := A_ (Kd.R_below (rz_ HO_238000.out) hb); have n4_ := A_ (Kd.R_below (rz_ HO241.out) hb); have n5_ := A_ (Kd.R_below (rz_ HO245.out) hb); have n6_ := A_ (blk_below (bz_ BK210.out) hb); have n7_ := A_ (blk_below (bz_ BK211.out) hb); have n8_ := A_ (blk_below (bz_ BK224.out) hb); have n9_ := A_ (blk_below (bz_ BK228.out) hb); have n10_ := A_ (blk_below (bz_ BK232.out) hb); have n11_ := A_ (blk_below (bz_ BK237.out) hb); have n12_ := A_ (below_step (by repeat (first | (with_reducible first | exact HB.out | apply b1_ | apply b2_ | apply b3_ | apply c_ GE210 | apply c_ GE211 | apply c_ GE224 | apply c_ GE228 | apply c_ GE232 | apply c_ GE237) | exact HB.out)) hb); clear HO_225000 HO_229000 HO_233000 HO_238000 HO241 HO245 BK210 BK211 BK224 BK228 BK232 BK237 HB; have HO_225000 := n0_; have HO_229000 := n1_; have HO_233000 := n2_; have HO_238000 := n3_; have HO241 := n4_; have HO245 := n5_; have BK210 := n6_; have BK211 := n7_; have BK224 := n8_; have BK228 := n9_; have BK232 := n10_; have BK237 := n11_; have HB := n12_; clear n0_ n1_ n2_ n3_ n4_ n5_ n6_ n7_ n8_ n9_ n10_ n11_ n12_; (try clear hb); (try clear hb2); (try clear hk); (try clear hi)))
           go_meet
           case rel => exact ⟨_, (true), (by first | rfl | (simp; done) | (simp [*]; done)), H', ⟨by have := HJ25.out; first | omega | exact Nat.le_refl _⟩, ⟨by (with_reducible repeat (first | apply Kd.R_alloc | apply Kd.R_drewN | apply Kd.R_drew)); exact Kd.R_mono HO_225000.out (fun _ hk => ⟨hk.1, ⟨hk.2.1, hk.2.2.1⟩⟩)⟩, ⟨by (with_reducible repeat (first | apply Kd.R_alloc | apply Kd.R_drewN | apply Kd.R_drew)); exact Kd.R_mono HO_229000.out (fun _ hk => ⟨hk.1, ⟨hk.2.1, hk.2.2.1⟩⟩)⟩, ⟨by (with_reducible repeat (first | apply Kd.R_alloc | apply Kd.R_drewN | apply Kd.R_drew)); exact Kd.R_mono HO_233000.out (fun _ hk => ⟨hk.1, ⟨hk.2.1, hk.2.2.1⟩⟩)⟩, ⟨by (with_reducible repeat (first | apply Kd.R_alloc | apply Kd.R_drewN | apply Kd.R_drew)); exact Kd.R_mono HO_238000.out (fun _ hk => ⟨hk.1, ⟨hk.2.1, hk.2.2.1⟩⟩)⟩, ⟨by (with_reducible repeat (first | apply bn_ | apply bd_ | apply ba_)); exact BK210.out⟩, ⟨by (with_reducible repeat (first | apply bn_ | apply bd_ | apply ba_)); exact BK211.out⟩, ⟨by (with_reducible repeat (first | apply bn_ | apply bd_ | apply ba_)); exact BK224.out⟩, ⟨by (with_reducible repeat (first | apply bn_ | apply bd_ | apply ba_)); exact BK228.out⟩, ⟨by (with_reducible repeat (first | apply bn_ | apply bd_ | apply ba_)); exact BK232.out⟩, ⟨by (with_reducible repeat (first | apply bn_ | apply bd_ | apply ba_)); exact BK237.out⟩, ⟨by repeat (first | (with_reducible first | exact HB.out | apply b1_ | apply b2_ | apply b3_ | apply c_ GE210 | apply c_ GE211 | apply c_ GE224 | apply c_ GE228 | apply c_ GE232 | apply c_ GE237) | exact HB.out)⟩⟩
        case rest =>
         clear HC108
         (try clear c1); (try clear c2); (try clear p2); (try clear c4); (try clear c5); (try clear c6); (try clear c7); (try clear c8); (try clear c9); (try clear c10); (try clear c11); (try clear c12); (try clear c13); (try clear c14); (try clear c15); (try clear c17); (try clear c23); (try clear c26); (try clear c27); (try clear c44); (try clear c49); (try clear c50); (try clear c51); (try clear c53); (try clear c58); (try clear c59); (try clear c60); (try clear c61); (try clear c67); (try clear c68); (try clear c69); (try clear c70); (try clear c71); (try clear c74); (try clear c75); (try clear c76); (try clear c77); (try clear c78); (try clear c79); (try clear c81); (try clear c82); (try clear c83); (try clear c84); (try clear c87); (try clear c88); (try clear c89); (try clear c90); (try clear c91); (try clear c93); (try clear c94); (try clear c95); (try clear c96); (try clear c99); (try clear c102); (try clear c105); (try clear c117); (try clear c118); (try clear c119); (try clear c120); (try clear c121); (try clear c124); (try clear c125); (try clear c126); (try clear c127); (try clear c130); (try clear c130b0); (try clear c132); (try clear c133); (try clear c134); (try clear c135); (try clear c136); (try clear c137); (try clear c139); (try clear c140); (try clear c141); (try clear c142); (try clear c145); (try clear c146); (try clear c147); (try clear c148); (try clear c149); (try clear c151); (try clear c152); (try clear c153); (try clear c154); (try clear hcz122_0); (try clear hcz128_0); (try clear hcz138_0); (try clear hcz143_0); (try clear hcz150_0); (try clear hcz155_0); (try clear hcz45_0); (try clear hcz52_0); (try clear hcz54_0); (try clear hcz62_0); (try clear hcz63_0); (try clear hcz72_0); (try clear hcz80_0); (try clear hcz85_0); (try clear hcz92_0); (try clear hcz97_0); (try clear hfz122_0); (try clear hfz128_0); (try clear hfz138_0); (try clear hfz143_0); (try clear hfz150_0); (try clear hfz155_0); (try clear hfz45_0); (try clear hfz52_0); (try clear hfz54_0); (try clear hfz62_0); (try clear hfz63_0); (try clear hfz72_0); (try clear hfz80_0); (try clear hfz85_0); (try clear hfz92_0); (try clear hfz97_0); (try clear p2)
         obtain ⟨kq, x86_107, rfl, HA, HJ107, HO_225000, HO_229000, HO_233000, HO_238000, BK210, BK211, BK224, BK228, BK232, BK237, HB⟩ := hcut
         have hl229000_107 := (Kd.R_reads' HO_229000.out).1
         rw [hl229000_107] at HO_229000
         (try simp only [hl229000_107])
         (try simp only [hl229000_107] at BK210)
         (try simp only [hl229000_107] at BK211)
         (try simp only [hl229000_107] at BK224)
         (try simp only [hl229000_107] at BK228)
         (try simp only [hl229000_107] at BK232)
         (try simp only [hl229000_107] at BK237)
         (try simp only [hl229000_107] at HO_225000)
         (try simp only [hl229000_107] at HO_233000)
         (try simp only [hl229000_107] at HO_238000)
         have hl233000_107 := (Kd.R_reads' HO_233000.out).1
         rw [hl233000_107] at HO_233000
         (try simp only [hl233000_107])
         (try simp only [hl233000_107] at BK210)
         (try simp only [hl233000_107] at BK211)
         (try simp only [hl233000_107] at BK224)
         (try simp only [hl233000_107] at BK228)
         (try simp only [hl233000_107] at BK232)
         (try simp only [hl233000_107] at BK237)
         (try simp only [hl233000_107] at HO_225000)
         (try simp only [hl233000_107] at HO_229000)
         (try simp only [hl233000_107] at HO_238000)
         cases kq with
         | zero => exact absurd HA.out (by simp [laws_FnExactBoxMeet.j1])
         | succ kj107 =>
          have H := HA.out
          clear HA
          simp only [laws_FnExactBoxMeet.j1] at H
          by_cases c157 : x86_107 = true
          ·subst c157
           have H1 : (some false) = some r := by rw [if_pos rfl] at H; exact H
           clear H
           have H := H1
           clear H1
           exact absurd (hr.out.trans (Option.some.inj H).symm) (by decide)
          ·replace c157 := Bool.eq_false_iff.mpr c157
           subst c157
           have H1 : ((laws_markBox.f kj107 t233 1).bind fun bt252 => ((laws_heldBox.f kj107 bt252.2 1).bind fun t254 => (if t254 < 0 then (some false) else (if t254 = bt252.1 then ((laws_toBox.f kj107 l1_0).bind fun t255 => ((laws_toBox.f kj107 l2_0).bind fun t258 => ((impl_BoxMeet.f kj107 a0 t255 t258).bind fun bt261 => ((laws_eqBox.f kj107 bt261.1 t220).bind fun t266 => (if t266 = true then (laws_FnExactBoxMeet.j2 kj107 bt252.1 (bt261.2 != t223) bt252.2) else (laws_FnExactBoxMeet.j2 kj107 bt252.1 true bt252.2)))))) else (some false))))) = some r := by rw [if_neg (show ¬ (false = true) by decide)] at H; exact H
           clear H
           have H := H1
           clear H1
           replace H := Option.bind_eq_some_iff.mp H
           obtain ⟨⟨t252, t253⟩, A1580, H⟩ := H
           replace H : ((laws_heldBox.f kj107 t253 1).bind fun t254 => (if t254 < 0 then (some false) else (if t254 = t252 then ((laws_toBox.f kj107 l1_0).bind fun t255 => ((laws_toBox.f kj107 l2_0).bind fun t258 => ((impl_BoxMeet.f kj107 a0 t255 t258).bind fun bt261 => ((laws_eqBox.f kj107 bt261.1 t220).bind fun t266 => (if t266 = true then (laws_FnExactBoxMeet.j2 kj107 t252 (bt261.2 != t223) t253) else (laws_FnExactBoxMeet.j2 kj107 t252 true t253)))))) else (some false)))) = some r := H
           have A158 := A_ A1580
           clear A1580
           replace H := Option.bind_eq_some_iff.mp H
           obtain ⟨t254, A1590, H⟩ := H
           replace H : (if t254 < 0 then (some false) else (if t254 = t252 then ((laws_toBox.f kj107 l1_0).bind fun t255 => ((laws_toBox.f kj107 l2_0).bind fun t258 => ((impl_BoxMeet.f kj107 a0 t255 t258).bind fun bt261 => ((laws_eqBox.f kj107 bt261.1 t220).bind fun t266 => (if t266 = true then (laws_FnExactBoxMeet.j2 kj107 t252 (bt261.2 != t223) t253) else (laws_FnExactBoxMeet.j2 kj107 t252 true t253)))))) else (some false))) = some r := H
           have A159 := A_ A1590
           clear A1590
           by_cases c160 : t254 < 0
           ·rw [if_pos c160] at H
            have c160b0 : decide (t254 < 0) = true := decide_eq_true c160
            clear c160
            exact absurd (hr.out.trans (Option.some.inj H).symm) (by decide)
           ·rw [if_neg c160] at H
            have c160b0 : decide (t254 < 0) = false := decide_eq_false c160
            clear c160
            by_cases c161 : t254 = t252
            ·rw [if_pos c161] at H
             have c161b0 : (t254 == t252) = true := beq_iff_eq.mpr c161
             have c161b1 : (t254 != t252) = false := bne_eq_false_iff_eq.mpr c161
             clear c161
             replace H := Option.bind_eq_some_iff.mp H
             obtain ⟨t255, A1620, H⟩ := H
             replace H : ((laws_toBox.f kj107 l2_0).bind fun t258 => ((impl_BoxMeet.f kj107 a0 t255 t258).bind fun bt261 => ((laws_eqBox.f kj107 bt261.1 t220).bind fun t266 => (if t266 = true then (laws_FnExactBoxMeet.j2 kj107 t252 (bt261.2 != t223) t253) else (laws_FnExactBoxMeet.j2 kj107 t252 true t253))))) = some r := H
             have A162 := A_ A1620
             clear A1620
             replace H := Option.bind_eq_some_iff.mp H
             obtain ⟨t258, A1630, H⟩ := H
             replace H : ((impl_BoxMeet.f kj107 a0 t255 t258).bind fun bt261 => ((laws_eqBox.f kj107 bt261.1 t220).bind fun t266 => (if t266 = true then (laws_FnExactBoxMeet.j2 kj107 t252 (bt261.2 != t223) t253) else (laws_FnExactBoxMeet.j2 kj107 t252 true t253)))) = some r := H
             have A163 := A_ A1630
             clear A1630
             replace H := Option.bind_eq_some_iff.mp H
             obtain ⟨⟨t261, t264⟩, A1640, H⟩ := H
             replace H : ((laws_eqBox.f kj107 t261 t220).bind fun t266 => (if t266 = true then (laws_FnExactBoxMeet.j2 kj107 t252 (t264 != t223) t253) else (laws_FnExactBoxMeet.j2 kj107 t252 true t253))) = some r := H
             have A164 := A_ A1640
             clear A1640
             have HC165 := A_ H
             clear H
             have hnb166 := NB237_210.out
             have hnc166 := NB210_237.out
             have hnb167 := NB237_211.out
             have hnc167 := NB211_237.out
             have hnb168 := NB237_224.out
             have hnc168 := NB224_237.out
             have hnb169 := NB237_228.out
             have hnc169 := NB228_237.out
             have hnb170 := NB237_232.out
             have hnc170 := NB232_237.out
             have hcz171_0 : wc.cell? ⟨gb237, 0, none⟩ = some (.slice Ao66 t233.length co66) := (blk_cell BK237.out 0).trans rfl
             have hfz171_0 := blk_frozen BK237.out 0
             try go_wp2_with (first | ((with_reducible refine gate_callee (f := 23) rfl ?_); refine goesL_ (some 89) rfl rfl Try.func23 (by kernel_rfl) rfl #[.agg #[.slice Ao66 t233.length co66], .int .i64 1] rfl (by (try simp only [List.map_toArray, List.map_cons, List.map_nil]); first | done | rfl) ?_; (with_reducible refine (laws_markBox.calls kj107 (fun k_ => some k_ = (.slice Ao66 t233.length co66 : Value).ownBlock) (.slice Ao66 t233.length co66) t233 1 t252 t253 w _ ?side1 ?side2 A158.out).mono ?_); (case side1 => repeat (first | (with_reducible first | exact HB.out | apply b1_ | apply b2_ | apply b3_ | apply c_ GE210 | apply c_ GE211 | apply c_ GE224 | apply c_ GE228 | apply c_ GE232 | apply c_ GE237) | exact HB.out)); (case side2 => exact Kd.R_tight rfl HO_238000.out); rintro e w172 ⟨rfl, hy0, hb, hkp⟩; refine ⟨_, rfl, ?_⟩; have n0_ := A_ (Kd.R_mono (ok' := fun k_ => some k_ ≠ (.slice Ao48 t248.length co48 : Value).ownBlock ∧ some k_ ≠ (.slice Ao57 t250.length co57 : Value).ownBlock ∧ some k_ ≠ (.slice Ao66 t233.length co66 : Value).ownBlock) (Kd.R_keptB (HO_225000.out) hkp (fun k_ hk_ hs_ => (hk_.2.2) hs_)) (fun k_ hk_ => ⟨hk_.1.1, hk_.1.2.1, hk_.1.2.2⟩)); have n1_ := A_ (Kd.R_mono (ok' := fun k_ => some k_ ≠ (.slice Ao42 t220.length co42 : Value).ownBlock ∧ some k_ ≠ (.slice Ao57 t250.length co57 : Value).ownBlock ∧ some k_ ≠ (.slice Ao66 t233.length co66 : Value).ownBlock) (Kd.R_keptB (HO_229000.out) hkp (fun k_ hk_ hs_ => (hk_.2.2) hs_)) (fun k_ hk_ => ⟨hk_.1.1, hk_.1.2.1, hk_.1.2.2⟩)); have n2_ := A_ (Kd.R_mono (ok' := fun k_ => some k_ ≠ (.slice Ao42 t220.length co42 : Value).ownBlock ∧ some k_ ≠ (.slice Ao48 t248.length co48 : Value).ownBlock ∧ some k_ ≠ (.slice Ao66 t233.length co66 : Value).ownBlock) (Kd.R_keptB (HO_233000.out) hkp (fun k_ hk_ hs_ => (hk_.2.2) hs_)) (fun k_ hk_ => ⟨hk_.1.1, hk_.1.2.1, hk_.1.2.2⟩)); have n3_ := A_ (Kd.R_reok rfl hy0 (fun k_ e_ => HO_238000.out.1 k_ e_)); have n4_ := A_ (blk_kept (bz_ BK210.out) hkp (fun hs_ => (fun e_ => (Kd.R_ne HO_238000.out BK210.out (by decide)) e_) hs_)); have n5_ := A_ (blk_kept (bz_ BK211.out) hkp (fun hs_ => (fun e_ => (Kd.R_ne HO_238000.out BK211.out (by decide)) e_) hs_)); have n6_ := A_ (blk_kept (bz_ BK224.out) hkp (fun hs_ => (fun e_ => (Kd.R_ne HO_238000.out BK224.out (by decide)) e_) hs_)); have n7_ := A_ (blk_kept (bz_ BK228.out) hkp (fun hs_ => (fun e_ => (Kd.R_ne HO_238000.out BK228.out (by decide)) e_) hs_)); have n8_ := A_ (blk_kept (bz_ BK232.out) hkp (fun hs_ => (fun e_ => (Kd.R_ne HO_238000.out BK232.out (by decide)) e_) hs_)); have n9_ := A_ (blk_kept (bz_ BK237.out) hkp (fun hs_ => (fun e_ => (Kd.R_ne HO_238000.out BK237.out (by decide)) e_) hs_)); have n10_ := A_ (hb); clear HO_225000 HO_229000 HO_233000 HO_238000 BK210 BK211 BK224 BK228 BK232 BK237 HB; have HO_225000 := n0_; have HO_229000 := n1_; have HO_233000 := n2_; have HO_238000 := n3_; have BK210 := n4_; have BK211 := n5_; have BK224 := n6_; have BK228 := n7_; have BK232 := n8_; have BK237 := n9_; have HB := n10_; clear n0_ n1_ n2_ n3_ n4_ n5_ n6_ n7_ n8_ n9_ n10_; (try clear hb); (try clear hkp); (try clear hy0); have hcz173_0 : w172.cell? ⟨gb237, 0, none⟩ = some (.slice Ao66 t233.length co66) := (blk_cell BK237.out 0).trans rfl; have hfz173_0 := blk_frozen BK237.out 0) | ((with_reducible refine gate_callee (f := 28) rfl ?_); refine goesL_ (some 92) rfl rfl Try.func28 (by kernel_rfl) rfl #[.agg #[.slice Ao66 t253.length co66], .int .i64 1] rfl (by (try simp only [List.map_toArray, List.map_cons, List.map_nil]); first | done | (rw [show t253.length = t233.length from (Kd.R_reads' HO_238000.out).1.symm] <;> rfl) | rfl | (simp only [List.length_drop, List.length_take]; rfl)) ?_; (with_reducible refine (laws_heldBox.calls kj107 _ _ t253 1 t254 _ ?side1 ?side2 A159.out).mono ?_); (case side1 => repeat (first | exact (Kd.R_reads' HO_238000.out).2.2 | (with_reducible refine Kd.C_alloc ?_ _) | (with_reducible refine Kd.C_drewN ?_ _) | (with_reducible refine Kd.C_drew ?_))); (case side2 => rw [show t253.length = t233.length from (Kd.R_reads' HO_238000.out).1.symm]; exact (Kd.R_reads' HO_238000.out).2.1); rintro e w174 ⟨rfl, hb⟩; refine ⟨_, rfl, ?_⟩; have n0_ := A_ (Kd.R_below (rz_ HO_225000.out) hb); have n1_ := A_ (Kd.R_below (rz_ HO_229000.out) hb); have n2_ := A_ (Kd.R_below (rz_ HO_233000.out) hb); have n3_ := A_ (Kd.R_below (rz_ HO_238000.out) hb); have n4_ := A_ (blk_below (bz_ BK210.out) hb); have n5_ := A_ (blk_below (bz_ BK211.out) hb); have n6_ := A_ (blk_below (bz_ BK224.out) hb); have n7_ := A_ (blk_below (bz_ BK228.out) hb); have n8_ := A_ (blk_below (bz_ BK232.out) hb); have n9_ := A_ (blk_below (bz_ BK237.out) hb); have n10_ := A_ (below_step (by repeat (first | (with_reducible first | exact HB.out | apply b1_ | apply b2_ | apply b3_ | apply c_ GE210 | apply c_ GE211 | apply c_ GE224 | apply c_ GE228 | apply c_ GE232 | apply c_ GE237) | exact HB.out)) hb); clear HO_225000 HO_229000 HO_233000 HO_238000 BK210 BK211 BK224 BK228 BK232 BK237 HB; have HO_225000 := n0_; have HO_229000 := n1_; have HO_233000 := n2_; have HO_238000 := n3_; have BK210 := n4_; have BK211 := n5_; have BK224 := n6_; have BK228 := n7_; have BK232 := n8_; have BK237 := n9_; have HB := n10_; clear n0_ n1_ n2_ n3_ n4_ n5_ n6_ n7_ n8_ n9_ n10_; (try clear hb); (try clear hb2); (try clear hk); (try clear hi)))
             have n0_ := A_ (Kd.R_drew HO_225000.out)
             have n1_ := A_ (Kd.R_drew HO_229000.out)
             have n2_ := A_ (Kd.R_drew HO_233000.out)
             have n3_ := A_ (Kd.R_drew HO_238000.out)
             have n4_ := A_ (blk_drew BK210.out)
             have n5_ := A_ (blk_drew BK211.out)
             have n6_ := A_ (blk_drew BK224.out)
             have n7_ := A_ (blk_drew BK228.out)
             have n8_ := A_ (blk_drew BK232.out)
             have n9_ := A_ (blk_drew BK237.out)
             have n10_ := A_ (below_drew1 HB.out)
             clear HO_225000 HO_229000
             clear HO_233000 HO_238000
             clear BK210 BK211
             clear BK224 BK228
             clear BK232 BK237 HB
             have HO_225000 := n0_
             have HO_229000 := n1_
             have HO_233000 := n2_
             have HO_238000 := n3_
             have BK210 := n4_
             have BK211 := n5_
             have BK224 := n6_
             have BK228 := n7_
             have BK232 := n8_
             have BK237 := n9_
             have HB := n10_
             clear n0_ n1_ n2_ n3_ n4_ n5_ n6_ n7_ n8_ n9_ n10_
             refine start_ (n := 12) (S := fun w' => w'.cell? ⟨gb210, 0, none⟩ = some (.slice A1_0 l1_0.length c1_0) ∧ w'.cell? ⟨gb211, 0, none⟩ = some (.slice A2_0 l2_0.length c2_0)) (ds := []) #[false, false, false, false, false, false, false, false, false, false, false, false] (by kernel_rfl) rfl rfl ⟨(blk_cell BK210.out 0).trans rfl, (blk_cell BK211.out 0).trans rfl⟩ (fun hHeld => ?_); refine with_tabW laws_FnExactBoxMeet.tab31 laws_FnExactBoxMeet.bits31 (fun HT_ HW_ => ?_)
             generalize w174.drew = w175 at HO_225000 HO_229000 HO_233000 HO_238000 BK210 BK211 BK224 BK228 BK232 BK237 HB hHeld ⊢
             refine pure_ (i := 0) (N := some 99) (v := ?_) (a' := ?_) #[true, false, false, false, false, false, false, false, false, false, false, false] rfl rfl (any_of HT_.out (by kernel_rfl)) (fun _ _ _ h => h) (Or.inl ⟨by rfl, ?_⟩) ?_ ?_
             rotate_left
             ·intro w'
              go_simp
              with_reducible rfl
             rotate_left
             ·simp only [Act.put, List.setIfInBounds_toArray, List.set_cons_zero, List.set_cons_succ, i64_w, i32_w]
              rfl
             refine take_ (i := 1) (N := some 100) (v := ?_) (a' := ?_) #[true, true, false, false, false, false, false, false, false, false, false, false] rfl rfl (take_ofW HT_.out HW_.out (by kernel_rfl)) (fun _ _ _ h => h) (Or.inl ⟨by rfl, ?_⟩) hHeld ?_ ?_
             rotate_left
             ·rintro w' ⟨s0, s1⟩
              go_simp
              with_reducible rfl
             rotate_left
             ·simp only [Act.put, List.setIfInBounds_toArray, List.set_cons_zero, List.set_cons_succ, i64_w, i32_w]
              rfl
             refine take_ (i := 3) (N := some 102) (v := ?_) (a' := ?_) #[true, true, false, true, false, false, false, false, false, false, false, false] rfl rfl (take_ofW HT_.out HW_.out (by kernel_rfl)) (fun _ _ _ h => h) (Or.inl ⟨by rfl, ?_⟩) hHeld ?_ ?_
             rotate_left
             ·rintro w' ⟨s0, s1⟩
              go_simp
              with_reducible rfl
             rotate_left
             ·simp only [Act.put, List.setIfInBounds_toArray, List.set_cons_zero, List.set_cons_succ, i64_w, i32_w]
              rfl
             refine join_ (σ := Value × Value × Value × Nat) 2 #[true, true, true, true, true, true, true, true, true, true, false, false] (fun s_ => [(101, .agg #[s_.1]), (103, .agg #[s_.2.1]), (104, .tuple #[.agg #[s_.2.2.1], .bool t264]), (17, .pointer (some ⟨s_.2.2.2, 0, none⟩)), (98, .tuple #[.agg #[s_.2.2.1], .bool t264]), (105, .agg #[s_.2.2.1]), (106, .bool t264)]) (fun s_ w' => (w'.cell? ⟨gb210, 0, none⟩ = some (.slice A1_0 l1_0.length c1_0) ∧ w'.cell? ⟨gb211, 0, none⟩ = some (.slice A2_0 l2_0.length c2_0)) ∧ (Kd.R k64 64 w' w.heap.size (fun k_ => some k_ ≠ (s_.2.1 : Value).ownBlock ∧ some k_ ≠ (s_.2.2.1 : Value).ownBlock ∧ some k_ ≠ (.slice Ao42 t220.length co42 : Value).ownBlock ∧ some k_ ≠ (.slice Ao48 t248.length co48 : Value).ownBlock ∧ some k_ ≠ (.slice Ao57 t250.length co57 : Value).ownBlock ∧ some k_ ≠ (.slice Ao66 t233.length co66 : Value).ownBlock) s_.1 t255) ∧ (Kd.R k64 64 w' w.heap.size (fun k_ => some k_ ≠ (s_.1 : Value).ownBlock ∧ some k_ ≠ (s_.2.2.1 : Value).ownBlock ∧ some k_ ≠ (.slice Ao42 t220.length co42 : Value).ownBlock ∧ some k_ ≠ (.slice Ao48 t248.length co48 : Value).ownBlock ∧ some k_ ≠ (.slice Ao57 t250.length co57 : Value).ownBlock ∧ some k_ ≠ (.slice Ao66 t233.length co66 : Value).ownBlock) s_.2.1 t258) ∧ (Kd.R k64 64 w' w.heap.size (fun k_ => some k_ ≠ (s_.1 : Value).ownBlock ∧ some k_ ≠ (s_.2.1 : Value).ownBlock ∧ some k_ ≠ (.slice Ao42 t220.length co42 : Value).ownBlock ∧ some k_ ≠ (.slice Ao48 t248.length co48 : Value).ownBlock ∧ some k_ ≠ (.slice Ao57 t250.length co57 : Value).ownBlock ∧ some k_ ≠ (.slice Ao66 t233.length co66 : Value).ownBlock) s_.2.2.1 t261) ∧ (Kd.R k64 64 w' w.heap.size (fun k_ => some k_ ≠ (s_.1 : Value).ownBlock ∧ some k_ ≠ (s_.2.1 : Value).ownBlock ∧ some k_ ≠ (s_.2.2.1 : Value).ownBlock ∧ some k_ ≠ (.slice Ao48 t248.length co48 : Value).ownBlock ∧ some k_ ≠ (.slice Ao57 t250.length co57 : Value).ownBlock ∧ some k_ ≠ (.slice Ao66 t233.length co66 : Value).ownBlock) (.slice Ao42 t220.length co42) t220) ∧ (Kd.R k64 64 w' w.heap.size (fun k_ => some k_ ≠ (s_.1 : Value).ownBlock ∧ some k_ ≠ (s_.2.1 : Value).ownBlock ∧ some k_ ≠ (s_.2.2.1 : Value).ownBlock ∧ some k_ ≠ (.slice Ao42 t220.length co42 : Value).ownBlock ∧ some k_ ≠ (.slice Ao57 t250.length co57 : Value).ownBlock ∧ some k_ ≠ (.slice Ao66 t233.length co66 : Value).ownBlock) (.slice Ao48 t248.length co48) t248) ∧ (Kd.R k64 64 w' w.heap.size (fun k_ => some k_ ≠ (s_.1 : Value).ownBlock ∧ some k_ ≠ (s_.2.1 : Value).ownBlock ∧ some k_ ≠ (s_.2.2.1 : Value).ownBlock ∧ some k_ ≠ (.slice Ao42 t220.length co42 : Value).ownBlock ∧ some k_ ≠ (.slice Ao48 t248.length co48 : Value).ownBlock ∧ some k_ ≠ (.slice Ao66 t233.length co66 : Value).ownBlock) (.slice Ao57 t250.length co57) t250) ∧ (Kd.R k64 64 w' w.heap.size (fun k_ => some k_ ≠ (s_.1 : Value).ownBlock ∧ some k_ ≠ (s_.2.1 : Value).ownBlock ∧ some k_ ≠ (s_.2.2.1 : Value).ownBlock ∧ some k_ ≠ (.slice Ao42 t220.length co42 : Value).ownBlock ∧ some k_ ≠ (.slice Ao48 t248.length co48 : Value).ownBlock ∧ some k_ ≠ (.slice Ao57 t250.length co57 : Value).ownBlock) (.slice Ao66 t233.length co66) t253) ∧ (w'.heap[gb210]? = some (.cells #[.slice A1_0 l1_0.length c1_0] 32 (0, 0))) ∧ (w'.heap[gb211]? = some (.cells #[.slice A2_0 l2_0.length c2_0] 32 (0, 0))) ∧ (w'.heap[gb224]? = some (.cells #[.slice Ao42 t220.length co42] 37 (0, 0))) ∧ (w'.heap[gb228]? = some (.cells #[.slice Ao48 t248.length co48] 37 (0, 0))) ∧ (w'.heap[gb232]? = some (.cells #[.slice Ao57 t250.length co57] 37 (0, 0))) ∧ (w'.heap[gb237]? = some (.cells #[.slice Ao66 t233.length co66] 37 (0, 0))) ∧ (w'.heap[s_.2.2.2]? = some (.cells #[.slice none 0 0] 37 (0, 0))) ∧ (w.heap.size ≤ s_.2.2.2) ∧ (w.heap.size ≤ s_.2.2.2) ∧ (gb210 ≠ s_.2.2.2) ∧ (s_.2.2.2 ≠ gb210) ∧ (gb211 ≠ s_.2.2.2) ∧ (s_.2.2.2 ≠ gb211) ∧ (gb224 ≠ s_.2.2.2) ∧ (s_.2.2.2 ≠ gb224) ∧ (gb228 ≠ s_.2.2.2) ∧ (s_.2.2.2 ≠ gb228) ∧ (gb232 ≠ s_.2.2.2) ∧ (s_.2.2.2 ≠ gb232) ∧ (gb237 ≠ s_.2.2.2) ∧ (s_.2.2.2 ≠ gb237) ∧ (Below w.heap.size w w')) ?_ ?_
             rotate_left
             ·intro hCont
              refine two_ (i := 2) (j := 9) (Ni := some 101) (Nj := some 17) #[true, true, true, true, false, false, false, false, false, false, false, false] #[true, true, false, true, false, false, false, false, false, true, false, false] rfl rfl rfl rfl (two_of HT_.out (by kernel_rfl)) (by decide) (by decide) (fun K hK => ?_) (fun K hK => ?_)
              ·skip
               refine goes_ Try.func15 (by kernel_rfl) rfl #[.agg #[.slice A1_0 l1_0.length c1_0]] (by rfl) rfl rfl (by (try simp only [List.map_toArray, List.map_cons, List.map_nil]); first | done | rfl) ?_
               with_reducible refine (laws_toBox.calls kj107 _ _ l1_0 t255 _ ?side1 ?side2 A162.out).mono ?_
               (case side1 => repeat (first | exact (Kd.C_below HR1_0.out HB.out) | (with_reducible refine Kd.C_alloc ?_ _) | (with_reducible refine Kd.C_drewN ?_ _) | (with_reducible refine Kd.C_drew ?_)))
               (case side2 => exact HC1_0.out)
               rintro e w176 ⟨v256, rfl, ho0, hb⟩
               refine ⟨_, rfl, ?_⟩
               have n0_ := A_ (Kd.R_elder' (rz_ HO_225000.out) (Kd.R_base ho0) hb)
               have n1_ := A_ (Kd.R_elder' (rz_ HO_229000.out) (Kd.R_base ho0) hb)
               have n2_ := A_ (Kd.R_elder' (rz_ HO_233000.out) (Kd.R_base ho0) hb)
               have n3_ := A_ (Kd.R_elder' (rz_ HO_238000.out) (Kd.R_base ho0) hb)
               have n4_ := A_ (Kd.R_lower (Kd.R_new' (Kd.R_new' (Kd.R_new' (Kd.R_new' ho0 (Kd.R_lt (rz_ HO_225000.out))) (Kd.R_lt (rz_ HO_229000.out))) (Kd.R_lt (rz_ HO_233000.out))) (Kd.R_lt (rz_ HO_238000.out))) (below_size (by repeat (first | (with_reducible first | exact HB.out | apply b1_ | apply b2_ | apply b3_ | apply c_ GE210 | apply c_ GE211 | apply c_ GE224 | apply c_ GE228 | apply c_ GE232 | apply c_ GE237) | exact HB.out))))
               have n5_ := A_ (blk_below (bz_ BK210.out) hb)
               have n6_ := A_ (blk_below (bz_ BK211.out) hb)
               have n7_ := A_ (blk_below (bz_ BK224.out) hb)
               have n8_ := A_ (blk_below (bz_ BK228.out) hb)
               have n9_ := A_ (blk_below (bz_ BK232.out) hb)
               have n10_ := A_ (blk_below (bz_ BK237.out) hb)
               have n11_ := A_ (below_step (by repeat (first | (with_reducible first | exact HB.out | apply b1_ | apply b2_ | apply b3_ | apply c_ GE210 | apply c_ GE211 | apply c_ GE224 | apply c_ GE228 | apply c_ GE232 | apply c_ GE237) | exact HB.out)) hb)
               clear HO_225000 HO_229000
               clear HO_233000 HO_238000
               clear BK210 BK211
               clear BK224 BK228
               clear BK232 BK237 HB
               have HO_225000 := n0_
               have HO_229000 := n1_
               have HO_233000 := n2_
               have HO_238000 := n3_
               have HO257 := n4_
               have BK210 := n5_
               have BK211 := n6_
               have BK224 := n7_
               have BK228 := n8_
               have BK232 := n9_
               have BK237 := n10_
               have HB := n11_
               clear n0_ n1_ n2_ n3_ n4_ n5_ n6_ n7_ n8_ n9_ n10_ n11_
               (try clear hb)
               (try clear hb2)
               (try clear hk)
               (try clear hi)
               (try clear ho0)
               refine hK.out _ _ ⟨(blk_cell BK210.out 0).trans rfl, (blk_cell BK211.out 0).trans rfl⟩ (fun hHeld => ?_)
               clear hK K
               refine norm_ (a' := ?_) ?_ ?_
               rotate_left
               ·show Act.put _ (some 101) _ = _
                simp only [Act.put, List.setIfInBounds_toArray, List.set_cons_zero, List.set_cons_succ, i64_w, i32_w]
                rfl
               refine two_ (i := 4) (j := 9) (Ni := some 103) (Nj := some 17) #[true, true, true, true, true, false, false, false, false, false, false, false] #[true, true, true, true, false, false, false, false, false, true, false, false] rfl rfl rfl rfl (two_of HT_.out (by kernel_rfl)) (by decide) (by decide) (fun K hK => ?_) (fun K hK => ?_)
               ·skip
                refine goes_ Try.func15 (by kernel_rfl) rfl #[.agg #[.slice A2_0 l2_0.length c2_0]] (by rfl) rfl rfl (by (try simp only [List.map_toArray, List.map_cons, List.map_nil]); first | done | rfl) ?_
                with_reducible refine (laws_toBox.calls kj107 _ _ l2_0 t258 _ ?side1 ?side2 A163.out).mono ?_
                (case side1 => repeat (first | exact (Kd.C_below HR2_0.out HB.out) | (with_reducible refine Kd.C_alloc ?_ _) | (with_reducible refine Kd.C_drewN ?_ _) | (with_reducible refine Kd.C_drew ?_)))
                (case side2 => exact HC2_0.out)
                rintro e w177 ⟨v259, rfl, ho0, hb⟩
                refine ⟨_, rfl, ?_⟩
                have n0_ := A_ (Kd.R_elder' (rz_ HO_225000.out) (Kd.R_base ho0) hb)
                have n1_ := A_ (Kd.R_elder' (rz_ HO_229000.out) (Kd.R_base ho0) hb)
                have n2_ := A_ (Kd.R_elder' (rz_ HO_233000.out) (Kd.R_base ho0) hb)
                have n3_ := A_ (Kd.R_elder' (rz_ HO_238000.out) (Kd.R_base ho0) hb)
                have n4_ := A_ (Kd.R_elder' (rz_ HO257.out) (Kd.R_base ho0) hb)
                have n5_ := A_ (Kd.R_lower (Kd.R_new' (Kd.R_new' (Kd.R_new' (Kd.R_new' (Kd.R_new' ho0 (Kd.R_lt (rz_ HO_225000.out))) (Kd.R_lt (rz_ HO_229000.out))) (Kd.R_lt (rz_ HO_233000.out))) (Kd.R_lt (rz_ HO_238000.out))) (Kd.R_lt (rz_ HO257.out))) (below_size (by repeat (first | (with_reducible first | exact HB.out | apply b1_ | apply b2_ | apply b3_ | apply c_ GE210 | apply c_ GE211 | apply c_ GE224 | apply c_ GE228 | apply c_ GE232 | apply c_ GE237) | exact HB.out))))
                have n6_ := A_ (blk_below (bz_ BK210.out) hb)
                have n7_ := A_ (blk_below (bz_ BK211.out) hb)
                have n8_ := A_ (blk_below (bz_ BK224.out) hb)
                have n9_ := A_ (blk_below (bz_ BK228.out) hb)
                have n10_ := A_ (blk_below (bz_ BK232.out) hb)
                have n11_ := A_ (blk_below (bz_ BK237.out) hb)
                have n12_ := A_ (below_step (by repeat (first | (with_reducible first | exact HB.out | apply b1_ | apply b2_ | apply b3_ | apply c_ GE210 | apply c_ GE211 | apply c_ GE224 | apply c_ GE228 | apply c_ GE232 | apply c_ GE237) | exact HB.out)) hb)
                clear HO_225000 HO_229000
                clear HO_233000 HO_238000
                clear HO257 BK210
                clear BK211 BK224
                clear BK228 BK232
                clear BK237 HB
                have HO_225000 := n0_
                have HO_229000 := n1_
                have HO_233000 := n2_
                have HO_238000 := n3_
                have HO257 := n4_
                have HO260 := n5_
                have BK210 := n6_
                have BK211 := n7_
                have BK224 := n8_
                have BK228 := n9_
                have BK232 := n10_
                have BK237 := n11_
                have HB := n12_
                clear n0_ n1_ n2_ n3_ n4_ n5_ n6_ n7_ n8_ n9_ n10_ n11_ n12_
                (try clear hb)
                (try clear hb2)
                (try clear hk)
                (try clear hi)
                (try clear ho0)
                obtain ⟨Ao178, co178, eo178⟩ := Kd.R_slice HO257.out
                (first | subst eo178 | (injection eo178 with f1_ f2_ f3_; have f4_ := f1_.symm; have f5_ := f3_.symm; clear f1_ f2_ f3_; subst f4_; subst f5_))
                obtain ⟨Ao179, co179, eo179⟩ := Kd.R_slice HO260.out
                (first | subst eo179 | (injection eo179 with f1_ f2_ f3_; have f4_ := f1_.symm; have f5_ := f3_.symm; clear f1_ f2_ f3_; subst f4_; subst f5_))
                refine hK.out _ _ ⟨(blk_cell BK210.out 0).trans rfl, (blk_cell BK211.out 0).trans rfl⟩ (fun hHeld => ?_)
                clear hK K
                refine norm_ (a' := ?_) ?_ ?_
                rotate_left
                ·show Act.put _ (some 103) _ = _
                 simp only [Act.put, List.setIfInBounds_toArray, List.set_cons_zero, List.set_cons_succ, i64_w, i32_w]
                 rfl
                refine two_ (i := 5) (j := 9) (Ni := some 104) (Nj := some 17) #[true, true, true, true, true, true, false, false, false, false, false, false] #[true, true, true, true, true, false, false, false, false, true, false, false] rfl rfl rfl rfl (two_of HT_.out (by kernel_rfl)) (by decide) (by decide) (fun K hK => ?_) (fun K hK => ?_)
                ·skip
                 refine goes_ Try.func27 (by kernel_rfl) rfl #[.int .i64 a0, .agg #[.slice Ao178 t255.length co178], .agg #[.slice Ao179 t258.length co179]] (by rfl) rfl rfl (by (try simp only [List.map_toArray, List.map_cons, List.map_nil]); first | done | rfl) ?_
                 with_reducible refine (impl_BoxMeet.calls kj107 a0 _ _ t255 _ _ t258 t261 t264 _ ?side1 ?side2 ?side3 ?side4 A164.out).mono ?_
                 (case side1 => repeat (first | exact (Kd.R_reads' HO257.out).2.2 | (with_reducible refine Kd.C_alloc ?_ _) | (with_reducible refine Kd.C_drewN ?_ _) | (with_reducible refine Kd.C_drew ?_)))
                 (case side2 => exact (Kd.R_reads' HO257.out).2.1)
                 (case side3 => repeat (first | exact (Kd.R_reads' HO260.out).2.2 | (with_reducible refine Kd.C_alloc ?_ _) | (with_reducible refine Kd.C_drewN ?_ _) | (with_reducible refine Kd.C_drew ?_)))
                 (case side4 => exact (Kd.R_reads' HO260.out).2.1)
                 rintro e w180 ⟨v262, rfl, ho0, hb⟩
                 refine ⟨_, rfl, ?_⟩
                 have n0_ := A_ (Kd.R_elder' (rz_ HO_225000.out) (Kd.R_base ho0) hb)
                 have n1_ := A_ (Kd.R_elder' (rz_ HO_229000.out) (Kd.R_base ho0) hb)
                 have n2_ := A_ (Kd.R_elder' (rz_ HO_233000.out) (Kd.R_base ho0) hb)
                 have n3_ := A_ (Kd.R_elder' (rz_ HO_238000.out) (Kd.R_base ho0) hb)
                 have n4_ := A_ (Kd.R_elder' (rz_ HO257.out) (Kd.R_base ho0) hb)
                 have n5_ := A_ (Kd.R_elder' (rz_ HO260.out) (Kd.R_base ho0) hb)
                 have n6_ := A_ (Kd.R_lower (Kd.R_new' (Kd.R_new' (Kd.R_new' (Kd.R_new' (Kd.R_new' (Kd.R_new' ho0 (Kd.R_lt (rz_ HO_225000.out))) (Kd.R_lt (rz_ HO_229000.out))) (Kd.R_lt (rz_ HO_233000.out))) (Kd.R_lt (rz_ HO_238000.out))) (Kd.R_lt (rz_ HO257.out))) (Kd.R_lt (rz_ HO260.out))) (below_size (by repeat (first | (with_reducible first | exact HB.out | apply b1_ | apply b2_ | apply b3_ | apply c_ GE210 | apply c_ GE211 | apply c_ GE224 | apply c_ GE228 | apply c_ GE232 | apply c_ GE237) | exact HB.out))))
                 have n7_ := A_ (blk_below (bz_ BK210.out) hb)
                 have n8_ := A_ (blk_below (bz_ BK211.out) hb)
                 have n9_ := A_ (blk_below (bz_ BK224.out) hb)
                 have n10_ := A_ (blk_below (bz_ BK228.out) hb)
                 have n11_ := A_ (blk_below (bz_ BK232.out) hb)
                 have n12_ := A_ (blk_below (bz_ BK237.out) hb)
                 have n13_ := A_ (below_step (by repeat (first | (with_reducible first | exact HB.out | apply b1_ | apply b2_ | apply b3_ | apply c_ GE210 | apply c_ GE211 | apply c_ GE224 | apply c_ GE228 | apply c_ GE232 | apply c_ GE237) | exact HB.out)) hb)
                 clear HO_225000 HO_229000
                 clear HO_233000 HO_238000
                 clear HO257 HO260
                 clear BK210 BK211
                 clear BK224 BK228
                 clear BK232 BK237 HB
                 have HO_225000 := n0_
                 have HO_229000 := n1_
                 have HO_233000 := n2_
                 have HO_238000 := n3_
                 have HO257 := n4_
                 have HO260 := n5_
                 have HO263 := n6_
                 have BK210 := n7_
                 have BK211 := n8_
                 have BK224 := n9_
                 have BK228 := n10_
                 have BK232 := n11_
                 have BK237 := n12_
                 have HB := n13_
                 clear n0_ n1_ n2_ n3_ n4_ n5_ n6_ n7_ n8_ n9_ n10_ n11_ n12_ n13_
                 (try clear hb)
                 (try clear hb2)
                 (try clear hk)
                 (try clear hi)
                 (try clear ho0)
                 refine hK.out _ _ ⟨(blk_cell BK210.out 0).trans rfl, (blk_cell BK211.out 0).trans rfl⟩ (fun hHeld => ?_)
                 clear hK K
                 refine norm_ (a' := ?_) ?_ ?_
                 rotate_left
                 ·show Act.put _ (some 104) _ = _
                  simp only [Act.put, List.setIfInBounds_toArray, List.set_cons_zero, List.set_cons_succ, i64_w, i32_w]
                  rfl
                 refine pure_ (i := 6) (N := some 98) (v := ?_) (a' := ?_) #[true, true, true, true, true, true, true, false, false, false, false, false] rfl rfl (any_of HT_.out (by kernel_rfl)) (fun _ _ _ h => h) (Or.inl ⟨by rfl, ?_⟩) ?_ ?_
                 rotate_left
                 ·intro w'
                  go_simp
                  with_reducible rfl
                 rotate_left
                 ·simp only [Act.put, List.setIfInBounds_toArray, List.set_cons_zero, List.set_cons_succ, i64_w, i32_w]
                  rfl
                 refine pure_ (i := 7) (N := some 105) (v := ?_) (a' := ?_) #[true, true, true, true, true, true, true, true, false, false, false, false] rfl rfl (any_of HT_.out (by kernel_rfl)) (fun _ _ _ h => h) (Or.inl ⟨by rfl, ?_⟩) ?_ ?_
                 rotate_left
                 ·intro w'
                  go_simp
                  with_reducible rfl
                 rotate_left
                 ·simp only [Act.put, List.setIfInBounds_toArray, List.set_cons_zero, List.set_cons_succ, i64_w, i32_w]
                  rfl
                 refine pure_ (i := 8) (N := some 106) (v := ?_) (a' := ?_) #[true, true, true, true, true, true, true, true, true, false, false, false] rfl rfl (any_of HT_.out (by kernel_rfl)) (fun _ _ _ h => h) (Or.inl ⟨by rfl, ?_⟩) ?_ ?_
                 rotate_left
                 ·intro w'
                  go_simp
                  with_reducible rfl
                 rotate_left
                 ·simp only [Act.put, List.setIfInBounds_toArray, List.set_cons_zero, List.set_cons_succ, i64_w, i32_w]
                  rfl
                 refine one_ (i := 9) (N := some 17) #[true, true, true, true, true, true, true, true, true, true, false, false] rfl rfl (one_of HT_.out (by kernel_rfl)) (by decide) (fun K hK => ?_)
                 refine box_step ?hg (N := 17) ?hd (cs := #[.slice none 0 0]) (t := 37) ?hr ?_; (case hd => rfl); (case hg => rfl); (case hr => first | (go_simp; done) | (go_simp; rfl))
                 intro gb265 hg w181 hbox hb
                 have n0_ := A_ (Kd.R_below (rz_ HO_225000.out) hb)
                 have n1_ := A_ (Kd.R_below (rz_ HO_229000.out) hb)
                 have n2_ := A_ (Kd.R_below (rz_ HO_233000.out) hb)
                 have n3_ := A_ (Kd.R_below (rz_ HO_238000.out) hb)
                 have n4_ := A_ (Kd.R_below (rz_ HO257.out) hb)
                 have n5_ := A_ (Kd.R_below (rz_ HO260.out) hb)
                 have n6_ := A_ (Kd.R_below (rz_ HO263.out) hb)
                 have n7_ := A_ (blk_below (bz_ BK210.out) hb)
                 have n8_ := A_ (blk_below (bz_ BK211.out) hb)
                 have n9_ := A_ (blk_below (bz_ BK224.out) hb)
                 have n10_ := A_ (blk_below (bz_ BK228.out) hb)
                 have n11_ := A_ (blk_below (bz_ BK232.out) hb)
                 have n12_ := A_ (blk_below (bz_ BK237.out) hb)
                 have n13_ := A_ (below_step (by repeat (first | (with_reducible first | exact HB.out | apply b1_ | apply b2_ | apply b3_ | apply c_ GE210 | apply c_ GE211 | apply c_ GE224 | apply c_ GE228 | apply c_ GE232 | apply c_ GE237) | exact HB.out)) hb)
                 have n14_ := A_ (hbox)
                 have n15_ := A_ ((by rw [hg]; exact (below_size (by repeat (first | (with_reducible first | exact HB.out | apply b1_ | apply b2_ | apply b3_ | apply c_ GE210 | apply c_ GE211 | apply c_ GE224 | apply c_ GE228 | apply c_ GE232 | apply c_ GE237) | exact HB.out))) : w.heap.size ≤ gb265))
                 have n16_ := n15_
                 have n17_ := A_ ((by rw [hg]; exact Nat.ne_of_lt (blk_lt (bz_ BK210.out)) : gb210 ≠ gb265))
                 have n18_ := A_ ((by rw [hg]; exact Nat.ne_of_gt (blk_lt (bz_ BK210.out)) : gb265 ≠ gb210))
                 have n19_ := A_ ((by rw [hg]; exact Nat.ne_of_lt (blk_lt (bz_ BK211.out)) : gb211 ≠ gb265))
                 have n20_ := A_ ((by rw [hg]; exact Nat.ne_of_gt (blk_lt (bz_ BK211.out)) : gb265 ≠ gb211))
                 have n21_ := A_ ((by rw [hg]; exact Nat.ne_of_lt (blk_lt (bz_ BK224.out)) : gb224 ≠ gb265))
                 have n22_ := A_ ((by rw [hg]; exact Nat.ne_of_gt (blk_lt (bz_ BK224.out)) : gb265 ≠ gb224))
                 have n23_ := A_ ((by rw [hg]; exact Nat.ne_of_lt (blk_lt (bz_ BK228.out)) : gb228 ≠ gb265))
                 have n24_ := A_ ((by rw [hg]; exact Nat.ne_of_gt (blk_lt (bz_ BK228.out)) : gb265 ≠ gb228))
                 have n25_ := A_ ((by rw [hg]; exact Nat.ne_of_lt (blk_lt (bz_ BK232.out)) : gb232 ≠ gb265))
                 have n26_ := A_ ((by rw [hg]; exact Nat.ne_of_gt (blk_lt (bz_ BK232.out)) : gb265 ≠ gb232))
                 have n27_ := A_ ((by rw [hg]; exact Nat.ne_of_lt (blk_lt (bz_ BK237.out)) : gb237 ≠ gb265))
                 have n28_ := A_ ((by rw [hg]; exact Nat.ne_of_gt (blk_lt (bz_ BK237.out)) : gb265 ≠ gb237))
                 clear HO_225000 HO_229000
                 clear HO_233000 HO_238000
                 clear HO257 HO260
                 clear HO263 BK210
                 clear BK211 BK224
                 clear BK228 BK232
                 clear BK237 HB
                 have HO_225000 := n0_
                 have HO_229000 := n1_
                 have HO_233000 := n2_
                 have HO_238000 := n3_
                 have HO257 := n4_
                 have HO260 := n5_
                 have HO263 := n6_
                 have BK210 := n7_
                 have BK211 := n8_
                 have BK224 := n9_
                 have BK228 := n10_
                 have BK232 := n11_
                 have BK237 := n12_
                 have HB := n13_
                 have BK265 := n14_
                 have GW265 := n15_
                 have GE265 := n16_
                 have NB210_265 := n17_
                 have NB265_210 := n18_
                 have NB211_265 := n19_
                 have NB265_211 := n20_
                 have NB224_265 := n21_
                 have NB265_224 := n22_
                 have NB228_265 := n23_
                 have NB265_228 := n24_
                 have NB232_265 := n25_
                 have NB265_232 := n26_
                 have NB237_265 := n27_
                 have NB265_237 := n28_
                 clear n0_ n1_ n2_ n3_ n4_ n5_ n6_ n7_ n8_ n9_ n10_ n11_ n12_ n13_ n14_ n15_ n16_ n17_ n18_ n19_ n20_ n21_ n22_ n23_ n24_ n25_ n26_ n27_ n28_
                 clear hb hbox hg
                 refine hK.out _ _ ⟨(blk_cell BK210.out 0).trans rfl, (blk_cell BK211.out 0).trans rfl⟩ (fun hHeld => ?_)
                 clear hK K
                 refine norm_ (a' := ?_) ?_ ?_
                 rotate_left
                 ·show Act.put _ (some 17) _ = _
                  simp only [Act.put, List.setIfInBounds_toArray, List.set_cons_zero, List.set_cons_succ, i64_w, i32_w]
                  rfl
                 exact norm_ (by simp only [putAll, Act.put, List.setIfInBounds_toArray, List.set_cons_zero, List.set_cons_succ]) (hCont (.slice Ao178 t255.length co178, .slice Ao179 t258.length co179, v262, gb265) _ ⟨hHeld, (rz_ (Kd.R_mono HO257.out (fun _ hk => ⟨hk.1.2, ⟨hk.2, ⟨hk.1.1.1.1.1.2, ⟨hk.1.1.1.1.2, ⟨hk.1.1.1.2, hk.1.1.2⟩⟩⟩⟩⟩))), (rz_ (Kd.R_mono HO260.out (fun _ hk => ⟨hk.1.2, ⟨hk.2, ⟨hk.1.1.1.1.1.2, ⟨hk.1.1.1.1.2, ⟨hk.1.1.1.2, hk.1.1.2⟩⟩⟩⟩⟩))), (rz_ (Kd.R_mono HO263.out (fun _ hk => ⟨hk.1.2, ⟨hk.2, ⟨hk.1.1.1.1.1.2, ⟨hk.1.1.1.1.2, ⟨hk.1.1.1.2, hk.1.1.2⟩⟩⟩⟩⟩))), (rz_ (Kd.R_mono HO_225000.out (fun _ hk => ⟨hk.1.1.2, ⟨hk.1.2, ⟨hk.2, ⟨hk.1.1.1.1, ⟨hk.1.1.1.2.1, hk.1.1.1.2.2⟩⟩⟩⟩⟩))), (rz_ (Kd.R_mono HO_229000.out (fun _ hk => ⟨hk.1.1.2, ⟨hk.1.2, ⟨hk.2, ⟨hk.1.1.1.1, ⟨hk.1.1.1.2.1, hk.1.1.1.2.2⟩⟩⟩⟩⟩))), (rz_ (Kd.R_mono HO_233000.out (fun _ hk => ⟨hk.1.1.2, ⟨hk.1.2, ⟨hk.2, ⟨hk.1.1.1.1, ⟨hk.1.1.1.2.1, hk.1.1.1.2.2⟩⟩⟩⟩⟩))), (rz_ (Kd.R_mono HO_238000.out (fun _ hk => ⟨hk.1.1.2, ⟨hk.1.2, ⟨hk.2, ⟨hk.1.1.1.1, ⟨hk.1.1.1.2.1, hk.1.1.1.2.2⟩⟩⟩⟩⟩))), (bz_ BK210.out), (bz_ BK211.out), (bz_ BK224.out), (bz_ BK228.out), (bz_ BK232.out), (bz_ BK237.out), (bz_ BK265.out), GW265.out, GE265.out, NB210_265.out, NB265_210.out, NB211_265.out, NB265_211.out, NB224_265.out, NB265_224.out, NB228_265.out, NB265_228.out, NB232_265.out, NB265_232.out, NB237_265.out, NB265_237.out, (by repeat (first | (with_reducible first | exact HB.out | apply b1_ | apply b2_ | apply b3_ | apply c_ GE210 | apply c_ GE211 | apply c_ GE224 | apply c_ GE228 | apply c_ GE232 | apply c_ GE237 | apply c_ GE265) | exact HB.out))⟩)
                ·skip
                 refine box_step ?hg (N := 17) ?hd (cs := #[.slice none 0 0]) (t := 37) ?hr ?_; (case hd => rfl); (case hg => rfl); (case hr => first | (go_simp; done) | (go_simp; rfl))
                 intro gb265 hg w178 hbox hb
                 have n0_ := A_ (Kd.R_below (rz_ HO_225000.out) hb)
                 have n1_ := A_ (Kd.R_below (rz_ HO_229000.out) hb)
                 have n2_ := A_ (Kd.R_below (rz_ HO_233000.out) hb)
                 have n3_ := A_ (Kd.R_below (rz_ HO_238000.out) hb)
                 have n4_ := A_ (Kd.R_below (rz_ HO257.out) hb)
                 have n5_ := A_ (Kd.R_below (rz_ HO260.out) hb)
                 have n6_ := A_ (blk_below (bz_ BK210.out) hb)
                 have n7_ := A_ (blk_below (bz_ BK211.out) hb)
                 have n8_ := A_ (blk_below (bz_ BK224.out) hb)
                 have n9_ := A_ (blk_below (bz_ BK228.out) hb)
                 have n10_ := A_ (blk_below (bz_ BK232.out) hb)
                 have n11_ := A_ (blk_below (bz_ BK237.out) hb)
                 have n12_ := A_ (below_step (by repeat (first | (with_reducible first | exact HB.out | apply b1_ | apply b2_ | apply b3_ | apply c_ GE210 | apply c_ GE211 | apply c_ GE224 | apply c_ GE228 | apply c_ GE232 | apply c_ GE237) | exact HB.out)) hb)
                 have n13_ := A_ (hbox)
                 have n14_ := A_ ((by rw [hg]; exact (below_size (by repeat (first | (with_reducible first | exact HB.out | apply b1_ | apply b2_ | apply b3_ | apply c_ GE210 | apply c_ GE211 | apply c_ GE224 | apply c_ GE228 | apply c_ GE232 | apply c_ GE237) | exact HB.out))) : w.heap.size ≤ gb265))
                 have n15_ := n14_
                 have n16_ := A_ ((by rw [hg]; exact Nat.ne_of_lt (blk_lt (bz_ BK210.out)) : gb210 ≠ gb265))
                 have n17_ := A_ ((by rw [hg]; exact Nat.ne_of_gt (blk_lt (bz_ BK210.out)) : gb265 ≠ gb210))
                 have n18_ := A_ ((by rw [hg]; exact Nat.ne_of_lt (blk_lt (bz_ BK211.out)) : gb211 ≠ gb265))
                 have n19_ := A_ ((by rw [hg]; exact Nat.ne_of_gt (blk_lt (bz_ BK211.out)) : gb265 ≠ gb211))
                 have n20_ := A_ ((by rw [hg]; exact Nat.ne_of_lt (blk_lt (bz_ BK224.out)) : gb224 ≠ gb265))
                 have n21_ := A_ ((by rw [hg]; exact Nat.ne_of_gt (blk_lt (bz_ BK224.out)) : gb265 ≠ gb224))
                 have n22_ := A_ ((by rw [hg]; exact Nat.ne_of_lt (blk_lt (bz_ BK228.out)) : gb228 ≠ gb265))
                 have n23_ := A_ ((by rw [hg]; exact Nat.ne_of_gt (blk_lt (bz_ BK228.out)) : gb265 ≠ gb228))
                 have n24_ := A_ ((by rw [hg]; exact Nat.ne_of_lt (blk_lt (bz_ BK232.out)) : gb232 ≠ gb265))
                 have n25_ := A_ ((by rw [hg]; exact Nat.ne_of_gt (blk_lt (bz_ BK232.out)) : gb265 ≠ gb232))
                 have n26_ := A_ ((by rw [hg]; exact Nat.ne_of_lt (blk_lt (bz_ BK237.out)) : gb237 ≠ gb265))
                 have n27_ := A_ ((by rw [hg]; exact Nat.ne_of_gt (blk_lt (bz_ BK237.out)) : gb265 ≠ gb237))
                 clear HO_225000 HO_229000
                 clear HO_233000 HO_238000
                 clear HO257 HO260
                 clear BK210 BK211
                 clear BK224 BK228
                 clear BK232 BK237 HB
                 have HO_225000 := n0_
                 have HO_229000 := n1_
                 have HO_233000 := n2_
                 have HO_238000 := n3_
                 have HO257 := n4_
                 have HO260 := n5_
                 have BK210 := n6_
                 have BK211 := n7_
                 have BK224 := n8_
                 have BK228 := n9_
                 have BK232 := n10_
                 have BK237 := n11_
                 have HB := n12_
                 have BK265 := n13_
                 have GW265 := n14_
                 have GE265 := n15_
                 have NB210_265 := n16_
                 have NB265_210 := n17_
                 have NB211_265 := n18_
                 have NB265_211 := n19_
                 have NB224_265 := n20_
                 have NB265_224 := n21_
                 have NB228_265 := n22_
                 have NB265_228 := n23_
                 have NB232_265 := n24_
                 have NB265_232 := n25_
                 have NB237_265 := n26_
                 have NB265_237 := n27_
                 clear n0_ n1_ n2_ n3_ n4_ n5_ n6_ n7_ n8_ n9_ n10_ n11_ n12_ n13_ n14_ n15_ n16_ n17_ n18_ n19_ n20_ n21_ n22_ n23_ n24_ n25_ n26_ n27_
                 clear hb hbox hg
                 obtain ⟨Ao179, co179, eo179⟩ := Kd.R_slice HO257.out
                 (first | subst eo179 | (injection eo179 with f1_ f2_ f3_; have f4_ := f1_.symm; have f5_ := f3_.symm; clear f1_ f2_ f3_; subst f4_; subst f5_))
                 obtain ⟨Ao180, co180, eo180⟩ := Kd.R_slice HO260.out
                 (first | subst eo180 | (injection eo180 with f1_ f2_ f3_; have f4_ := f1_.symm; have f5_ := f3_.symm; clear f1_ f2_ f3_; subst f4_; subst f5_))
                 refine hK.out _ _ ⟨(blk_cell BK210.out 0).trans rfl, (blk_cell BK211.out 0).trans rfl⟩ (fun hHeld => ?_)
                 clear hK K
                 refine norm_ (a' := ?_) ?_ ?_
                 rotate_left
                 ·show Act.put _ (some 17) _ = _
                  simp only [Act.put, List.setIfInBounds_toArray, List.set_cons_zero, List.set_cons_succ, i64_w, i32_w]
                  rfl
                 refine one_ (i := 5) (N := some 104) #[true, true, true, true, true, true, false, false, false, true, false, false] rfl rfl (one_of HT_.out (by kernel_rfl)) (by decide) (fun K hK => ?_)
                 refine goes_ Try.func27 (by kernel_rfl) rfl #[.int .i64 a0, .agg #[.slice Ao179 t255.length co179], .agg #[.slice Ao180 t258.length co180]] (by rfl) rfl rfl (by (try simp only [List.map_toArray, List.map_cons, List.map_nil]); first | done | rfl) ?_
                 with_reducible refine (impl_BoxMeet.calls kj107 a0 _ _ t255 _ _ t258 t261 t264 _ ?side1 ?side2 ?side3 ?side4 A164.out).mono ?_
                 (case side1 => repeat (first | exact (Kd.R_reads' HO257.out).2.2 | (with_reducible refine Kd.C_alloc ?_ _) | (with_reducible refine Kd.C_drewN ?_ _) | (with_reducible refine Kd.C_drew ?_)))
                 (case side2 => exact (Kd.R_reads' HO257.out).2.1)
                 (case side3 => repeat (first | exact (Kd.R_reads' HO260.out).2.2 | (with_reducible refine Kd.C_alloc ?_ _) | (with_reducible refine Kd.C_drewN ?_ _) | (with_reducible refine Kd.C_drew ?_)))
                 (case side4 => exact (Kd.R_reads' HO260.out).2.1)
                 rintro e w181 ⟨v262, rfl, ho0, hb⟩
                 refine ⟨_, rfl, ?_⟩
                 have n0_ := A_ (Kd.R_elder' (rz_ HO_225000.out) (Kd.R_base ho0) hb)
                 have n1_ := A_ (Kd.R_elder' (rz_ HO_229000.out) (Kd.R_base ho0) hb)
                 have n2_ := A_ (Kd.R_elder' (rz_ HO_233000.out) (Kd.R_base ho0) hb)
                 have n3_ := A_ (Kd.R_elder' (rz_ HO_238000.out) (Kd.R_base ho0) hb)
                 have n4_ := A_ (Kd.R_elder' (rz_ HO257.out) (Kd.R_base ho0) hb)
                 have n5_ := A_ (Kd.R_elder' (rz_ HO260.out) (Kd.R_base ho0) hb)
                 have n6_ := A_ (Kd.R_lower (Kd.R_new' (Kd.R_new' (Kd.R_new' (Kd.R_new' (Kd.R_new' (Kd.R_new' ho0 (Kd.R_lt (rz_ HO_225000.out))) (Kd.R_lt (rz_ HO_229000.out))) (Kd.R_lt (rz_ HO_233000.out))) (Kd.R_lt (rz_ HO_238000.out))) (Kd.R_lt (rz_ HO257.out))) (Kd.R_lt (rz_ HO260.out))) (below_size (by repeat (first | (with_reducible first | exact HB.out | apply b1_ | apply b2_ | apply b3_ | apply c_ GE210 | apply c_ GE211 | apply c_ GE224 | apply c_ GE228 | apply c_ GE232 | apply c_ GE237 | apply c_ GE265) | exact HB.out))))
                 have n7_ := A_ (blk_below (bz_ BK210.out) hb)
                 have n8_ := A_ (blk_below (bz_ BK211.out) hb)
                 have n9_ := A_ (blk_below (bz_ BK224.out) hb)
                 have n10_ := A_ (blk_below (bz_ BK228.out) hb)
                 have n11_ := A_ (blk_below (bz_ BK232.out) hb)
                 have n12_ := A_ (blk_below (bz_ BK237.out) hb)
                 have n13_ := A_ (blk_below (bz_ BK265.out) hb)
                 have n14_ := A_ (below_step (by repeat (first | (with_reducible first | exact HB.out | apply b1_ | apply b2_ | apply b3_ | apply c_ GE210 | apply c_ GE211 | apply c_ GE224 | apply c_ GE228 | apply c_ GE232 | apply c_ GE237 | apply c_ GE265) | exact HB.out)) hb)
                 clear HO_225000 HO_229000
                 clear HO_233000 HO_238000
                 clear HO257 HO260
                 clear BK210 BK211
                 clear BK224 BK228
                 clear BK232 BK237
                 clear BK265 HB
                 have HO_225000 := n0_
                 have HO_229000 := n1_
                 have HO_233000 := n2_
                 have HO_238000 := n3_
                 have HO257 := n4_
                 have HO260 := n5_
                 have HO263 := n6_
                 have BK210 := n7_
                 have BK211 := n8_
                 have BK224 := n9_
                 have BK228 := n10_
                 have BK232 := n11_
                 have BK237 := n12_
                 have BK265 := n13_
                 have HB := n14_
                 clear n0_ n1_ n2_ n3_ n4_ n5_ n6_ n7_ n8_ n9_ n10_ n11_ n12_ n13_ n14_
                 (try clear hb)
                 (try clear hb2)
                 (try clear hk)
                 (try clear hi)
                 (try clear ho0)
                 refine hK.out _ _ ⟨(blk_cell BK210.out 0).trans rfl, (blk_cell BK211.out 0).trans rfl⟩ (fun hHeld => ?_)
                 clear hK K
                 refine norm_ (a' := ?_) ?_ ?_
                 rotate_left
                 ·show Act.put _ (some 104) _ = _
                  simp only [Act.put, List.setIfInBounds_toArray, List.set_cons_zero, List.set_cons_succ, i64_w, i32_w]
                  rfl
                 refine pure_ (i := 6) (N := some 98) (v := ?_) (a' := ?_) #[true, true, true, true, true, true, true, false, false, true, false, false] rfl rfl (any_of HT_.out (by kernel_rfl)) (fun _ _ _ h => h) (Or.inl ⟨by rfl, ?_⟩) ?_ ?_
                 rotate_left
                 ·intro w'
                  go_simp
                  with_reducible rfl
                 rotate_left
                 ·simp only [Act.put, List.setIfInBounds_toArray, List.set_cons_zero, List.set_cons_succ, i64_w, i32_w]
                  rfl
                 refine pure_ (i := 7) (N := some 105) (v := ?_) (a' := ?_) #[true, true, true, true, true, true, true, true, false, true, false, false] rfl rfl (any_of HT_.out (by kernel_rfl)) (fun _ _ _ h => h) (Or.inl ⟨by rfl, ?_⟩) ?_ ?_
                 rotate_left
                 ·intro w'
                  go_simp
                  with_reducible rfl
                 rotate_left
                 ·simp only [Act.put, List.setIfInBounds_toArray, List.set_cons_zero, List.set_cons_succ, i64_w, i32_w]
                  rfl
                 refine pure_ (i := 8) (N := some 106) (v := ?_) (a' := ?_) #[true, true, true, true, true, true, true, true, true, true, false, false] rfl rfl (any_of HT_.out (by kernel_rfl)) (fun _ _ _ h => h) (Or.inl ⟨by rfl, ?_⟩) ?_ ?_
                 rotate_left
                 ·intro w'
                  go_simp
                  with_reducible rfl
                 rotate_left
                 ·simp only [Act.put, List.setIfInBounds_toArray, List.set_cons_zero, List.set_cons_succ, i64_w, i32_w]
                  rfl
                 exact norm_ (by simp only [putAll, Act.put, List.setIfInBounds_toArray, List.set_cons_zero, List.set_cons_succ]) (hCont (.slice Ao179 t255.length co179, .slice Ao180 t258.length co180, v262, gb265) _ ⟨hHeld, (rz_ (Kd.R_mono HO257.out (fun _ hk => ⟨hk.1.2, ⟨hk.2, ⟨hk.1.1.1.1.1.2, ⟨hk.1.1.1.1.2, ⟨hk.1.1.1.2, hk.1.1.2⟩⟩⟩⟩⟩))), (rz_ (Kd.R_mono HO260.out (fun _ hk => ⟨hk.1.2, ⟨hk.2, ⟨hk.1.1.1.1.1.2, ⟨hk.1.1.1.1.2, ⟨hk.1.1.1.2, hk.1.1.2⟩⟩⟩⟩⟩))), (rz_ (Kd.R_mono HO263.out (fun _ hk => ⟨hk.1.2, ⟨hk.2, ⟨hk.1.1.1.1.1.2, ⟨hk.1.1.1.1.2, ⟨hk.1.1.1.2, hk.1.1.2⟩⟩⟩⟩⟩))), (rz_ (Kd.R_mono HO_225000.out (fun _ hk => ⟨hk.1.1.2, ⟨hk.1.2, ⟨hk.2, ⟨hk.1.1.1.1, ⟨hk.1.1.1.2.1, hk.1.1.1.2.2⟩⟩⟩⟩⟩))), (rz_ (Kd.R_mono HO_229000.out (fun _ hk => ⟨hk.1.1.2, ⟨hk.1.2, ⟨hk.2, ⟨hk.1.1.1.1, ⟨hk.1.1.1.2.1, hk.1.1.1.2.2⟩⟩⟩⟩⟩))), (rz_ (Kd.R_mono HO_233000.out (fun _ hk => ⟨hk.1.1.2, ⟨hk.1.2, ⟨hk.2, ⟨hk.1.1.1.1, ⟨hk.1.1.1.2.1, hk.1.1.1.2.2⟩⟩⟩⟩⟩))), (rz_ (Kd.R_mono HO_238000.out (fun _ hk => ⟨hk.1.1.2, ⟨hk.1.2, ⟨hk.2, ⟨hk.1.1.1.1, ⟨hk.1.1.1.2.1, hk.1.1.1.2.2⟩⟩⟩⟩⟩))), (bz_ BK210.out), (bz_ BK211.out), (bz_ BK224.out), (bz_ BK228.out), (bz_ BK232.out), (bz_ BK237.out), (bz_ BK265.out), GW265.out, GE265.out, NB210_265.out, NB265_210.out, NB211_265.out, NB265_211.out, NB224_265.out, NB265_224.out, NB228_265.out, NB265_228.out, NB232_265.out, NB265_232.out, NB237_265.out, NB265_237.out, (by repeat (first | (with_reducible first | exact HB.out | apply b1_ | apply b2_ | apply b3_ | apply c_ GE210 | apply c_ GE211 | apply c_ GE224 | apply c_ GE228 | apply c_ GE232 | apply c_ GE237 | apply c_ GE265) | exact HB.out))⟩)
               ·skip
                refine box_step ?hg (N := 17) ?hd (cs := #[.slice none 0 0]) (t := 37) ?hr ?_; (case hd => rfl); (case hg => rfl); (case hr => first | (go_simp; done) | (go_simp; rfl))
                intro gb265 hg w177 hbox hb
                have n0_ := A_ (Kd.R_below (rz_ HO_225000.out) hb)
                have n1_ := A_ (Kd.R_below (rz_ HO_229000.out) hb)
                have n2_ := A_ (Kd.R_below (rz_ HO_233000.out) hb)
                have n3_ := A_ (Kd.R_below (rz_ HO_238000.out) hb)
                have n4_ := A_ (Kd.R_below (rz_ HO257.out) hb)
                have n5_ := A_ (blk_below (bz_ BK210.out) hb)
                have n6_ := A_ (blk_below (bz_ BK211.out) hb)
                have n7_ := A_ (blk_below (bz_ BK224.out) hb)
                have n8_ := A_ (blk_below (bz_ BK228.out) hb)
                have n9_ := A_ (blk_below (bz_ BK232.out) hb)
                have n10_ := A_ (blk_below (bz_ BK237.out) hb)
                have n11_ := A_ (below_step (by repeat (first | (with_reducible first | exact HB.out | apply b1_ | apply b2_ | apply b3_ | apply c_ GE210 | apply c_ GE211 | apply c_ GE224 | apply c_ GE228 | apply c_ GE232 | apply c_ GE237) | exact HB.out)) hb)
                have n12_ := A_ (hbox)
                have n13_ := A_ ((by rw [hg]; exact (below_size (by repeat (first | (with_reducible first | exact HB.out | apply b1_ | apply b2_ | apply b3_ | apply c_ GE210 | apply c_ GE211 | apply c_ GE224 | apply c_ GE228 | apply c_ GE232 | apply c_ GE237) | exact HB.out))) : w.heap.size ≤ gb265))
                have n14_ := n13_
                have n15_ := A_ ((by rw [hg]; exact Nat.ne_of_lt (blk_lt (bz_ BK210.out)) : gb210 ≠ gb265))
                have n16_ := A_ ((by rw [hg]; exact Nat.ne_of_gt (blk_lt (bz_ BK210.out)) : gb265 ≠ gb210))
                have n17_ := A_ ((by rw [hg]; exact Nat.ne_of_lt (blk_lt (bz_ BK211.out)) : gb211 ≠ gb265))
                have n18_ := A_ ((by rw [hg]; exact Nat.ne_of_gt (blk_lt (bz_ BK211.out)) : gb265 ≠ gb211))
                have n19_ := A_ ((by rw [hg]; exact Nat.ne_of_lt (blk_lt (bz_ BK224.out)) : gb224 ≠ gb265))
                have n20_ := A_ ((by rw [hg]; exact Nat.ne_of_gt (blk_lt (bz_ BK224.out)) : gb265 ≠ gb224))
                have n21_ := A_ ((by rw [hg]; exact Nat.ne_of_lt (blk_lt (bz_ BK228.out)) : gb228 ≠ gb265))
                have n22_ := A_ ((by rw [hg]; exact Nat.ne_of_gt (blk_lt (bz_ BK228.out)) : gb265 ≠ gb228))
                have n23_ := A_ ((by rw [hg]; exact Nat.ne_of_lt (blk_lt (bz_ BK232.out)) : gb232 ≠ gb265))
                have n24_ := A_ ((by rw [hg]; exact Nat.ne_of_gt (blk_lt (bz_ BK232.out)) : gb265 ≠ gb232))
                have n25_ := A_ ((by rw [hg]; exact Nat.ne_of_lt (blk_lt (bz_ BK237.out)) : gb237 ≠ gb265))
                have n26_ := A_ ((by rw [hg]; exact Nat.ne_of_gt (blk_lt (bz_ BK237.out)) : gb265 ≠ gb237))
                clear HO_225000 HO_229000
                clear HO_233000 HO_238000
                clear HO257 BK210
                clear BK211 BK224
                clear BK228 BK232
                clear BK237 HB
                have HO_225000 := n0_
                have HO_229000 := n1_
                have HO_233000 := n2_
                have HO_238000 := n3_
                have HO257 := n4_
                have BK210 := n5_
                have BK211 := n6_
                have BK224 := n7_
                have BK228 := n8_
                have BK232 := n9_
                have BK237 := n10_
                have HB := n11_
                have BK265 := n12_
                have GW265 := n13_
                have GE265 := n14_
                have NB210_265 := n15_
                have NB265_210 := n16_
                have NB211_265 := n17_
                have NB265_211 := n18_
                have NB224_265 := n19_
                have NB265_224 := n20_
                have NB228_265 := n21_
                have NB265_228 := n22_
                have NB232_265 := n23_
                have NB265_232 := n24_
                have NB237_265 := n25_
                have NB265_237 := n26_
                clear n0_ n1_ n2_ n3_ n4_ n5_ n6_ n7_ n8_ n9_ n10_ n11_ n12_ n13_ n14_ n15_ n16_ n17_ n18_ n19_ n20_ n21_ n22_ n23_ n24_ n25_ n26_
                clear hb hbox hg
                refine hK.out _ _ ⟨(blk_cell BK210.out 0).trans rfl, (blk_cell BK211.out 0).trans rfl⟩ (fun hHeld => ?_)
                clear hK K
                refine norm_ (a' := ?_) ?_ ?_
                rotate_left
                ·show Act.put _ (some 17) _ = _
                 simp only [Act.put, List.setIfInBounds_toArray, List.set_cons_zero, List.set_cons_succ, i64_w, i32_w]
                 rfl
                refine one_ (i := 4) (N := some 103) #[true, true, true, true, true, false, false, false, false, true, false, false] rfl rfl (one_of HT_.out (by kernel_rfl)) (by decide) (fun K hK => ?_)
                refine goes_ Try.func15 (by kernel_rfl) rfl #[.agg #[.slice A2_0 l2_0.length c2_0]] (by rfl) rfl rfl (by (try simp only [List.map_toArray, List.map_cons, List.map_nil]); first | done | rfl) ?_
                with_reducible refine (laws_toBox.calls kj107 _ _ l2_0 t258 _ ?side1 ?side2 A163.out).mono ?_
                (case side1 => repeat (first | exact (Kd.C_below HR2_0.out HB.out) | (with_reducible refine Kd.C_alloc ?_ _) | (with_reducible refine Kd.C_drewN ?_ _) | (with_reducible refine Kd.C_drew ?_)))
                (case side2 => exact HC2_0.out)
                rintro e w178 ⟨v259, rfl, ho0, hb⟩
                refine ⟨_, rfl, ?_⟩
                have n0_ := A_ (Kd.R_elder' (rz_ HO_225000.out) (Kd.R_base ho0) hb)
                have n1_ := A_ (Kd.R_elder' (rz_ HO_229000.out) (Kd.R_base ho0) hb)
                have n2_ := A_ (Kd.R_elder' (rz_ HO_233000.out) (Kd.R_base ho0) hb)
                have n3_ := A_ (Kd.R_elder' (rz_ HO_238000.out) (Kd.R_base ho0) hb)
                have n4_ := A_ (Kd.R_elder' (rz_ HO257.out) (Kd.R_base ho0) hb)
                have n5_ := A_ (Kd.R_lower (Kd.R_new' (Kd.R_new' (Kd.R_new' (Kd.R_new' (Kd.R_new' ho0 (Kd.R_lt (rz_ HO_225000.out))) (Kd.R_lt (rz_ HO_229000.out))) (Kd.R_lt (rz_ HO_233000.out))) (Kd.R_lt (rz_ HO_238000.out))) (Kd.R_lt (rz_ HO257.out))) (below_size (by repeat (first | (with_reducible first | exact HB.out | apply b1_ | apply b2_ | apply b3_ | apply c_ GE210 | apply c_ GE211 | apply c_ GE224 | apply c_ GE228 | apply c_ GE232 | apply c_ GE237 | apply c_ GE265) | exact HB.out))))
                have n6_ := A_ (blk_below (bz_ BK210.out) hb)
                have n7_ := A_ (blk_below (bz_ BK211.out) hb)
                have n8_ := A_ (blk_below (bz_ BK224.out) hb)
                have n9_ := A_ (blk_below (bz_ BK228.out) hb)
                have n10_ := A_ (blk_below (bz_ BK232.out) hb)
                have n11_ := A_ (blk_below (bz_ BK237.out) hb)
                have n12_ := A_ (blk_below (bz_ BK265.out) hb)
                have n13_ := A_ (below_step (by repeat (first | (with_reducible first | exact HB.out | apply b1_ | apply b2_ | apply b3_ | apply c_ GE210 | apply c_ GE211 | apply c_ GE224 | apply c_ GE228 | apply c_ GE232 | apply c_ GE237 | apply c_ GE265) | exact HB.out)) hb)
                clear HO_225000 HO_229000
                clear HO_233000 HO_238000
                clear HO257 BK210
                clear BK211 BK224
                clear BK228 BK232
                clear BK237 BK265 HB
                have HO_225000 := n0_
                have HO_229000 := n1_
                have HO_233000 := n2_
                have HO_238000 := n3_
                have HO257 := n4_
                have HO260 := n5_
                have BK210 := n6_
                have BK211 := n7_
                have BK224 := n8_
                have BK228 := n9_
                have BK232 := n10_
                have BK237 := n11_
                have BK265 := n12_
                have HB := n13_
                clear n0_ n1_ n2_ n3_ n4_ n5_ n6_ n7_ n8_ n9_ n10_ n11_ n12_ n13_
                (try clear hb)
                (try clear hb2)
                (try clear hk)
                (try clear hi)
                (try clear ho0)
                obtain ⟨Ao179, co179, eo179⟩ := Kd.R_slice HO257.out
                (first | subst eo179 | (injection eo179 with f1_ f2_ f3_; have f4_ := f1_.symm; have f5_ := f3_.symm; clear f1_ f2_ f3_; subst f4_; subst f5_))
                obtain ⟨Ao180, co180, eo180⟩ := Kd.R_slice HO260.out
                (first | subst eo180 | (injection eo180 with f1_ f2_ f3_; have f4_ := f1_.symm; have f5_ := f3_.symm; clear f1_ f2_ f3_; subst f4_; subst f5_))
                refine hK.out _ _ ⟨(blk_cell BK210.out 0).trans rfl, (blk_cell BK211.out 0).trans rfl⟩ (fun hHeld => ?_)
                clear hK K
                refine norm_ (a' := ?_) ?_ ?_
                rotate_left
                ·show Act.put _ (some 103) _ = _
                 simp only [Act.put, List.setIfInBounds_toArray, List.set_cons_zero, List.set_cons_succ, i64_w, i32_w]
                 rfl
                refine one_ (i := 5) (N := some 104) #[true, true, true, true, true, true, false, false, false, true, false, false] rfl rfl (one_of HT_.out (by kernel_rfl)) (by decide) (fun K hK => ?_)
                refine goes_ Try.func27 (by kernel_rfl) rfl #[.int .i64 a0, .agg #[.slice Ao179 t255.length co179], .agg #[.slice Ao180 t258.length co180]] (by rfl) rfl rfl (by (try simp only [List.map_toArray, List.map_cons, List.map_nil]); first | done | rfl) ?_
                with_reducible refine (impl_BoxMeet.calls kj107 a0 _ _ t255 _ _ t258 t261 t264 _ ?side1 ?side2 ?side3 ?side4 A164.out).mono ?_
                (case side1 => repeat (first | exact (Kd.R_reads' HO257.out).2.2 | (with_reducible refine Kd.C_alloc ?_ _) | (with_reducible refine Kd.C_drewN ?_ _) | (with_reducible refine Kd.C_drew ?_)))
                (case side2 => exact (Kd.R_reads' HO257.out).2.1)
                (case side3 => repeat (first | exact (Kd.R_reads' HO260.out).2.2 | (with_reducible refine Kd.C_alloc ?_ _) | (with_reducible refine Kd.C_drewN ?_ _) | (with_reducible refine Kd.C_drew ?_)))
                (case side4 => exact (Kd.R_reads' HO260.out).2.1)
                rintro e w181 ⟨v262, rfl, ho0, hb⟩
                refine ⟨_, rfl, ?_⟩
                have n0_ := A_ (Kd.R_elder' (rz_ HO_225000.out) (Kd.R_base ho0) hb)
                have n1_ := A_ (Kd.R_elder' (rz_ HO_229000.out) (Kd.R_base ho0) hb)
                have n2_ := A_ (Kd.R_elder' (rz_ HO_233000.out) (Kd.R_base ho0) hb)
                have n3_ := A_ (Kd.R_elder' (rz_ HO_238000.out) (Kd.R_base ho0) hb)
                have n4_ := A_ (Kd.R_elder' (rz_ HO257.out) (Kd.R_base ho0) hb)
                have n5_ := A_ (Kd.R_elder' (rz_ HO260.out) (Kd.R_base ho0) hb)
                have n6_ := A_ (Kd.R_lower (Kd.R_new' (Kd.R_new' (Kd.R_new' (Kd.R_new' (Kd.R_new' (Kd.R_new' ho0 (Kd.R_lt (rz_ HO_225000.out))) (Kd.R_lt (rz_ HO_229000.out))) (Kd.R_lt (rz_ HO_233000.out))) (Kd.R_lt (rz_ HO_238000.out))) (Kd.R_lt (rz_ HO257.out))) (Kd.R_lt (rz_ HO260.out))) (below_size (by repeat (first | (with_reducible first | exact HB.out | apply b1_ | apply b2_ | apply b3_ | apply c_ GE210 | apply c_ GE211 | apply c_ GE224 | apply c_ GE228 | apply c_ GE232 | apply c_ GE237 | apply c_ GE265) | exact HB.out))))
                have n7_ := A_ (blk_below (bz_ BK210.out) hb)
                have n8_ := A_ (blk_below (bz_ BK211.out) hb)
                have n9_ := A_ (blk_below (bz_ BK224.out) hb)
                have n10_ := A_ (blk_below (bz_ BK228.out) hb)
                have n11_ := A_ (blk_below (bz_ BK232.out) hb)
                have n12_ := A_ (blk_below (bz_ BK237.out) hb)
                have n13_ := A_ (blk_below (bz_ BK265.out) hb)
                have n14_ := A_ (below_step (by repeat (first | (with_reducible first | exact HB.out | apply b1_ | apply b2_ | apply b3_ | apply c_ GE210 | apply c_ GE211 | apply c_ GE224 | apply c_ GE228 | apply c_ GE232 | apply c_ GE237 | apply c_ GE265) | exact HB.out)) hb)
                clear HO_225000 HO_229000
                clear HO_233000 HO_238000
                clear HO257 HO260
                clear BK210 BK211
                clear BK224 BK228
                clear BK232 BK237
                clear BK265 HB
                have HO_225000 := n0_
                have HO_229000 := n1_
                have HO_233000 := n2_
                have HO_238000 := n3_
                have HO257 := n4_
                have HO260 := n5_
                have HO263 := n6_
                have BK210 := n7_
                have BK211 := n8_
                have BK224 := n9_
                have BK228 := n10_
                have BK232 := n11_
                have BK237 := n12_
                have BK265 := n13_
                have HB := n14_
                clear n0_ n1_ n2_ n3_ n4_ n5_ n6_ n7_ n8_ n9_ n10_ n11_ n12_ n13_ n14_
                (try clear hb)
                (try clear hb2)
                (try clear hk)
                (try clear hi)
                (try clear ho0)
                refine hK.out _ _ ⟨(blk_cell BK210.out 0).trans rfl, (blk_cell BK211.out 0).trans rfl⟩ (fun hHeld => ?_)
                clear hK K
                refine norm_ (a' := ?_) ?_ ?_
                rotate_left
                ·show Act.put _ (some 104) _ = _
                 simp only [Act.put, List.setIfInBounds_toArray, List.set_cons_zero, List.set_cons_succ, i64_w, i32_w]
                 rfl
                refine pure_ (i := 6) (N := some 98) (v := ?_) (a' := ?_) #[true, true, true, true, true, true, true, false, false, true, false, false] rfl rfl (any_of HT_.out (by kernel_rfl)) (fun _ _ _ h => h) (Or.inl ⟨by rfl, ?_⟩) ?_ ?_
                rotate_left
                ·intro w'
                 go_simp
                 with_reducible rfl
                rotate_left
                ·simp only [Act.put, List.setIfInBounds_toArray, List.set_cons_zero, List.set_cons_succ, i64_w, i32_w]
                 rfl
                refine pure_ (i := 7) (N := some 105) (v := ?_) (a' := ?_) #[true, true, true, true, true, true, true, true, false, true, false, false] rfl rfl (any_of HT_.out (by kernel_rfl)) (fun _ _ _ h => h) (Or.inl ⟨by rfl, ?_⟩) ?_ ?_
                rotate_left
                ·intro w'
                 go_simp
                 with_reducible rfl
                rotate_left
                ·simp only [Act.put, List.setIfInBounds_toArray, List.set_cons_zero, List.set_cons_succ, i64_w, i32_w]
                 rfl
                refine pure_ (i := 8) (N := some 106) (v := ?_) (a' := ?_) #[true, true, true, true, true, true, true, true, true, true, false, false] rfl rfl (any_of HT_.out (by kernel_rfl)) (fun _ _ _ h => h) (Or.inl ⟨by rfl, ?_⟩) ?_ ?_
                rotate_left
                ·intro w'
                 go_simp
                 with_reducible rfl
                rotate_left
                ·simp only [Act.put, List.setIfInBounds_toArray, List.set_cons_zero, List.set_cons_succ, i64_w, i32_w]
                 rfl
                exact norm_ (by simp only [putAll, Act.put, List.setIfInBounds_toArray, List.set_cons_zero, List.set_cons_succ]) (hCont (.slice Ao179 t255.length co179, .slice Ao180 t258.length co180, v262, gb265) _ ⟨hHeld, (rz_ (Kd.R_mono HO257.out (fun _ hk => ⟨hk.1.2, ⟨hk.2, ⟨hk.1.1.1.1.1.2, ⟨hk.1.1.1.1.2, ⟨hk.1.1.1.2, hk.1.1.2⟩⟩⟩⟩⟩))), (rz_ (Kd.R_mono HO260.out (fun _ hk => ⟨hk.1.2, ⟨hk.2, ⟨hk.1.1.1.1.1.2, ⟨hk.1.1.1.1.2, ⟨hk.1.1.1.2, hk.1.1.2⟩⟩⟩⟩⟩))), (rz_ (Kd.R_mono HO263.out (fun _ hk => ⟨hk.1.2, ⟨hk.2, ⟨hk.1.1.1.1.1.2, ⟨hk.1.1.1.1.2, ⟨hk.1.1.1.2, hk.1.1.2⟩⟩⟩⟩⟩))), (rz_ (Kd.R_mono HO_225000.out (fun _ hk => ⟨hk.1.1.2, ⟨hk.1.2, ⟨hk.2, ⟨hk.1.1.1.1, ⟨hk.1.1.1.2.1, hk.1.1.1.2.2⟩⟩⟩⟩⟩))), (rz_ (Kd.R_mono HO_229000.out (fun _ hk => ⟨hk.1.1.2, ⟨hk.1.2, ⟨hk.2, ⟨hk.1.1.1.1, ⟨hk.1.1.1.2.1, hk.1.1.1.2.2⟩⟩⟩⟩⟩))), (rz_ (Kd.R_mono HO_233000.out (fun _ hk => ⟨hk.1.1.2, ⟨hk.1.2, ⟨hk.2, ⟨hk.1.1.1.1, ⟨hk.1.1.1.2.1, hk.1.1.1.2.2⟩⟩⟩⟩⟩))), (rz_ (Kd.R_mono HO_238000.out (fun _ hk => ⟨hk.1.1.2, ⟨hk.1.2, ⟨hk.2, ⟨hk.1.1.1.1, ⟨hk.1.1.1.2.1, hk.1.1.1.2.2⟩⟩⟩⟩⟩))), (bz_ BK210.out), (bz_ BK211.out), (bz_ BK224.out), (bz_ BK228.out), (bz_ BK232.out), (bz_ BK237.out), (bz_ BK265.out), GW265.out, GE265.out, NB210_265.out, NB265_210.out, NB211_265.out, NB265_211.out, NB224_265.out, NB265_224.out, NB228_265.out, NB265_228.out, NB232_265.out, NB265_232.out, NB237_265.out, NB265_237.out, (by repeat (first | (with_reducible first | exact HB.out | apply b1_ | apply b2_ | apply b3_ | apply c_ GE210 | apply c_ GE211 | apply c_ GE224 | apply c_ GE228 | apply c_ GE232 | apply c_ GE237 | apply c_ GE265) | exact HB.out))⟩)
              ·skip
               refine box_step ?hg (N := 17) ?hd (cs := #[.slice none 0 0]) (t := 37) ?hr ?_; (case hd => rfl); (case hg => rfl); (case hr => first | (go_simp; done) | (go_simp; rfl))
               intro gb265 hg w176 hbox hb
               have n0_ := A_ (Kd.R_below (rz_ HO_225000.out) hb)
               have n1_ := A_ (Kd.R_below (rz_ HO_229000.out) hb)
               have n2_ := A_ (Kd.R_below (rz_ HO_233000.out) hb)
               have n3_ := A_ (Kd.R_below (rz_ HO_238000.out) hb)
               have n4_ := A_ (blk_below (bz_ BK210.out) hb)
               have n5_ := A_ (blk_below (bz_ BK211.out) hb)
               have n6_ := A_ (blk_below (bz_ BK224.out) hb)
               have n7_ := A_ (blk_below (bz_ BK228.out) hb)
               have n8_ := A_ (blk_below (bz_ BK232.out) hb)
               have n9_ := A_ (blk_below (bz_ BK237.out) hb)
               have n10_ := A_ (below_step (by repeat (first | (with_reducible first | exact HB.out | apply b1_ | apply b2_ | apply b3_ | apply c_ GE210 | apply c_ GE211 | apply c_ GE224 | apply c_ GE228 | apply c_ GE232 | apply c_ GE237) | exact HB.out)) hb)
               have n11_ := A_ (hbox)
               have n12_ := A_ ((by rw [hg]; exact (below_size (by repeat (first | (with_reducible first | exact HB.out | apply b1_ | apply b2_ | apply b3_ | apply c_ GE210 | apply c_ GE211 | apply c_ GE224 | apply c_ GE228 | apply c_ GE232 | apply c_ GE237) | exact HB.out))) : w.heap.size ≤ gb265))
               have n13_ := n12_
               have n14_ := A_ ((by rw [hg]; exact Nat.ne_of_lt (blk_lt (bz_ BK210.out)) : gb210 ≠ gb265))
               have n15_ := A_ ((by rw [hg]; exact Nat.ne_of_gt (blk_lt (bz_ BK210.out)) : gb265 ≠ gb210))
               have n16_ := A_ ((by rw [hg]; exact Nat.ne_of_lt (blk_lt (bz_ BK211.out)) : gb211 ≠ gb265))
               have n17_ := A_ ((by rw [hg]; exact Nat.ne_of_gt (blk_lt (bz_ BK211.out)) : gb265 ≠ gb211))
               have n18_ := A_ ((by rw [hg]; exact Nat.ne_of_lt (blk_lt (bz_ BK224.out)) : gb224 ≠ gb265))
               have n19_ := A_ ((by rw [hg]; exact Nat.ne_of_gt (blk_lt (bz_ BK224.out)) : gb265 ≠ gb224))
               have n20_ := A_ ((by rw [hg]; exact Nat.ne_of_lt (blk_lt (bz_ BK228.out)) : gb228 ≠ gb265))
               have n21_ := A_ ((by rw [hg]; exact Nat.ne_of_gt (blk_lt (bz_ BK228.out)) : gb265 ≠ gb228))
               have n22_ := A_ ((by rw [hg]; exact Nat.ne_of_lt (blk_lt (bz_ BK232.out)) : gb232 ≠ gb265))
               have n23_ := A_ ((by rw [hg]; exact Nat.ne_of_gt (blk_lt (bz_ BK232.out)) : gb265 ≠ gb232))
               have n24_ := A_ ((by rw [hg]; exact Nat.ne_of_lt (blk_lt (bz_ BK237.out)) : gb237 ≠ gb265))
               have n25_ := A_ ((by rw [hg]; exact Nat.ne_of_gt (blk_lt (bz_ BK237.out)) : gb265 ≠ gb237))
               clear HO_225000 HO_229000
               clear HO_233000 HO_238000
               clear BK210 BK211
               clear BK224 BK228
               clear BK232 BK237 HB
               have HO_225000 := n0_
               have HO_229000 := n1_
               have HO_233000 := n2_
               have HO_238000 := n3_
               have BK210 := n4_
               have BK211 := n5_
               have BK224 := n6_
               have BK228 := n7_
               have BK232 := n8_
               have BK237 := n9_
               have HB := n10_
               have BK265 := n11_
               have GW265 := n12_
               have GE265 := n13_
               have NB210_265 := n14_
               have NB265_210 := n15_
               have NB211_265 := n16_
               have NB265_211 := n17_
               have NB224_265 := n18_
               have NB265_224 := n19_
               have NB228_265 := n20_
               have NB265_228 := n21_
               have NB232_265 := n22_
               have NB265_232 := n23_
               have NB237_265 := n24_
               have NB265_237 := n25_
               clear n0_ n1_ n2_ n3_ n4_ n5_ n6_ n7_ n8_ n9_ n10_ n11_ n12_ n13_ n14_ n15_ n16_ n17_ n18_ n19_ n20_ n21_ n22_ n23_ n24_ n25_
               clear hb hbox hg
               refine hK.out _ _ ⟨(blk_cell BK210.out 0).trans rfl, (blk_cell BK211.out 0).trans rfl⟩ (fun hHeld => ?_)
               clear hK K
               refine norm_ (a' := ?_) ?_ ?_
               rotate_left
               ·show Act.put _ (some 17) _ = _
                simp only [Act.put, List.setIfInBounds_toArray, List.set_cons_zero, List.set_cons_succ, i64_w, i32_w]
                rfl
               refine one_ (i := 2) (N := some 101) #[true, true, true, true, false, false, false, false, false, true, false, false] rfl rfl (one_of HT_.out (by kernel_rfl)) (by decide) (fun K hK => ?_)
               refine goes_ Try.func15 (by kernel_rfl) rfl #[.agg #[.slice A1_0 l1_0.length c1_0]] (by rfl) rfl rfl (by (try simp only [List.map_toArray, List.map_cons, List.map_nil]); first | done | rfl) ?_
               with_reducible refine (laws_toBox.calls kj107 _ _ l1_0 t255 _ ?side1 ?side2 A162.out).mono ?_
               (case side1 => repeat (first | exact (Kd.C_below HR1_0.out HB.out) | (with_reducible refine Kd.C_alloc ?_ _) | (with_reducible refine Kd.C_drewN ?_ _) | (with_reducible refine Kd.C_drew ?_)))
               (case side2 => exact HC1_0.out)
               rintro e w177 ⟨v256, rfl, ho0, hb⟩
               refine ⟨_, rfl, ?_⟩
               have n0_ := A_ (Kd.R_elder' (rz_ HO_225000.out) (Kd.R_base ho0) hb)
               have n1_ := A_ (Kd.R_elder' (rz_ HO_229000.out) (Kd.R_base ho0) hb)
               have n2_ := A_ (Kd.R_elder' (rz_ HO_233000.out) (Kd.R_base ho0) hb)
               have n3_ := A_ (Kd.R_elder' (rz_ HO_238000.out) (Kd.R_base ho0) hb)
               have n4_ := A_ (Kd.R_lower (Kd.R_new' (Kd.R_new' (Kd.R_new' (Kd.R_new' ho0 (Kd.R_lt (rz_ HO_225000.out))) (Kd.R_lt (rz_ HO_229000.out))) (Kd.R_lt (rz_ HO_233000.out))) (Kd.R_lt (rz_ HO_238000.out))) (below_size (by repeat (first | (with_reducible first | exact HB.out | apply b1_ | apply b2_ | apply b3_ | apply c_ GE210 | apply c_ GE211 | apply c_ GE224 | apply c_ GE228 | apply c_ GE232 | apply c_ GE237 | apply c_ GE265) | exact HB.out))))
               have n5_ := A_ (blk_below (bz_ BK210.out) hb)
               have n6_ := A_ (blk_below (bz_ BK211.out) hb)
               have n7_ := A_ (blk_below (bz_ BK224.out) hb)
               have n8_ := A_ (blk_below (bz_ BK228.out) hb)
               have n9_ := A_ (blk_below (bz_ BK232.out) hb)
               have n10_ := A_ (blk_below (bz_ BK237.out) hb)
               have n11_ := A_ (blk_below (bz_ BK265.out) hb)
               have n12_ := A_ (below_step (by repeat (first | (with_reducible first | exact HB.out | apply b1_ | apply b2_ | apply b3_ | apply c_ GE210 | apply c_ GE211 | apply c_ GE224 | apply c_ GE228 | apply c_ GE232 | apply c_ GE237 | apply c_ GE265) | exact HB.out)) hb)
               clear HO_225000 HO_229000
               clear HO_233000 HO_238000
               clear BK210 BK211
               clear BK224 BK228
               clear BK232 BK237
               clear BK265 HB
               have HO_225000 := n0_
               have HO_229000 := n1_
               have HO_233000 := n2_
               have HO_238000 := n3_
               have HO257 := n4_
               have BK210 := n5_
               have BK211 := n6_
               have BK224 := n7_
               have BK228 := n8_
               have BK232 := n9_
               have BK237 := n10_
               have BK265 := n11_
               have HB := n12_
               clear n0_ n1_ n2_ n3_ n4_ n5_ n6_ n7_ n8_ n9_ n10_ n11_ n12_
               (try clear hb)
               (try clear hb2)
               (try clear hk)
               (try clear hi)
               (try clear ho0)
               refine hK.out _ _ ⟨(blk_cell BK210.out 0).trans rfl, (blk_cell BK211.out 0).trans rfl⟩ (fun hHeld => ?_)
               clear hK K
               refine norm_ (a' := ?_) ?_ ?_
               rotate_left
               ·show Act.put _ (some 101) _ = _
                simp only [Act.put, List.setIfInBounds_toArray, List.set_cons_zero, List.set_cons_succ, i64_w, i32_w]
                rfl
               refine one_ (i := 4) (N := some 103) #[true, true, true, true, true, false, false, false, false, true, false, false] rfl rfl (one_of HT_.out (by kernel_rfl)) (by decide) (fun K hK => ?_)
               refine goes_ Try.func15 (by kernel_rfl) rfl #[.agg #[.slice A2_0 l2_0.length c2_0]] (by rfl) rfl rfl (by (try simp only [List.map_toArray, List.map_cons, List.map_nil]); first | done | rfl) ?_
               with_reducible refine (laws_toBox.calls kj107 _ _ l2_0 t258 _ ?side1 ?side2 A163.out).mono ?_
               (case side1 => repeat (first | exact (Kd.C_below HR2_0.out HB.out) | (with_reducible refine Kd.C_alloc ?_ _) | (with_reducible refine Kd.C_drewN ?_ _) | (with_reducible refine Kd.C_drew ?_)))
               (case side2 => exact HC2_0.out)
               rintro e w178 ⟨v259, rfl, ho0, hb⟩
               refine ⟨_, rfl, ?_⟩
               have n0_ := A_ (Kd.R_elder' (rz_ HO_225000.out) (Kd.R_base ho0) hb)
               have n1_ := A_ (Kd.R_elder' (rz_ HO_229000.out) (Kd.R_base ho0) hb)
               have n2_ := A_ (Kd.R_elder' (rz_ HO_233000.out) (Kd.R_base ho0) hb)
               have n3_ := A_ (Kd.R_elder' (rz_ HO_238000.out) (Kd.R_base ho0) hb)
               have n4_ := A_ (Kd.R_elder' (rz_ HO257.out) (Kd.R_base ho0) hb)
               have n5_ := A_ (Kd.R_lower (Kd.R_new' (Kd.R_new' (Kd.R_new' (Kd.R_new' (Kd.R_new' ho0 (Kd.R_lt (rz_ HO_225000.out))) (Kd.R_lt (rz_ HO_229000.out))) (Kd.R_lt (rz_ HO_233000.out))) (Kd.R_lt (rz_ HO_238000.out))) (Kd.R_lt (rz_ HO257.out))) (below_size (by repeat (first | (with_reducible first | exact HB.out | apply b1_ | apply b2_ | apply b3_ | apply c_ GE210 | apply c_ GE211 | apply c_ GE224 | apply c_ GE228 | apply c_ GE232 | apply c_ GE237 | apply c_ GE265) | exact HB.out))))
               have n6_ := A_ (blk_below (bz_ BK210.out) hb)
               have n7_ := A_ (blk_below (bz_ BK211.out) hb)
               have n8_ := A_ (blk_below (bz_ BK224.out) hb)
               have n9_ := A_ (blk_below (bz_ BK228.out) hb)
               have n10_ := A_ (blk_below (bz_ BK232.out) hb)
               have n11_ := A_ (blk_below (bz_ BK237.out) hb)
               have n12_ := A_ (blk_below (bz_ BK265.out) hb)
               have n13_ := A_ (below_step (by repeat (first | (with_reducible first | exact HB.out | apply b1_ | apply b2_ | apply b3_ | apply c_ GE210 | apply c_ GE211 | apply c_ GE224 | apply c_ GE228 | apply c_ GE232 | apply c_ GE237 | apply c_ GE265) | exact HB.out)) hb)
               clear HO_225000 HO_229000
               clear HO_233000 HO_238000
               clear HO257 BK210
               clear BK211 BK224
               clear BK228 BK232
               clear BK237 BK265 HB
               have HO_225000 := n0_
               have HO_229000 := n1_
               have HO_233000 := n2_
               have HO_238000 := n3_
               have HO257 := n4_
               have HO260 := n5_
               have BK210 := n6_
               have BK211 := n7_
               have BK224 := n8_
               have BK228 := n9_
               have BK232 := n10_
               have BK237 := n11_
               have BK265 := n12_
               have HB := n13_
               clear n0_ n1_ n2_ n3_ n4_ n5_ n6_ n7_ n8_ n9_ n10_ n11_ n12_ n13_
               (try clear hb)
               (try clear hb2)
               (try clear hk)
               (try clear hi)
               (try clear ho0)
               obtain ⟨Ao179, co179, eo179⟩ := Kd.R_slice HO257.out
               (first | subst eo179 | (injection eo179 with f1_ f2_ f3_; have f4_ := f1_.symm; have f5_ := f3_.symm; clear f1_ f2_ f3_; subst f4_; subst f5_))
               obtain ⟨Ao180, co180, eo180⟩ := Kd.R_slice HO260.out
               (first | subst eo180 | (injection eo180 with f1_ f2_ f3_; have f4_ := f1_.symm; have f5_ := f3_.symm; clear f1_ f2_ f3_; subst f4_; subst f5_))
               refine hK.out _ _ ⟨(blk_cell BK210.out 0).trans rfl, (blk_cell BK211.out 0).trans rfl⟩ (fun hHeld => ?_)
               clear hK K
               refine norm_ (a' := ?_) ?_ ?_
               rotate_left
               ·show Act.put _ (some 103) _ = _
                simp only [Act.put, List.setIfInBounds_toArray, List.set_cons_zero, List.set_cons_succ, i64_w, i32_w]
                rfl
               refine one_ (i := 5) (N := some 104) #[true, true, true, true, true, true, false, false, false, true, false, false] rfl rfl (one_of HT_.out (by kernel_rfl)) (by decide) (fun K hK => ?_)
               refine goes_ Try.func27 (by kernel_rfl) rfl #[.int .i64 a0, .agg #[.slice Ao179 t255.length co179], .agg #[.slice Ao180 t258.length co180]] (by rfl) rfl rfl (by (try simp only [List.map_toArray, List.map_cons, List.map_nil]); first | done | rfl) ?_
               with_reducible refine (impl_BoxMeet.calls kj107 a0 _ _ t255 _ _ t258 t261 t264 _ ?side1 ?side2 ?side3 ?side4 A164.out).mono ?_
               (case side1 => repeat (first | exact (Kd.R_reads' HO257.out).2.2 | (with_reducible refine Kd.C_alloc ?_ _) | (with_reducible refine Kd.C_drewN ?_ _) | (with_reducible refine Kd.C_drew ?_)))
               (case side2 => exact (Kd.R_reads' HO257.out).2.1)
               (case side3 => repeat (first | exact (Kd.R_reads' HO260.out).2.2 | (with_reducible refine Kd.C_alloc ?_ _) | (with_reducible refine Kd.C_drewN ?_ _) | (with_reducible refine Kd.C_drew ?_)))
               (case side4 => exact (Kd.R_reads' HO260.out).2.1)
               rintro e w181 ⟨v262, rfl, ho0, hb⟩
               refine ⟨_, rfl, ?_⟩
               have n0_ := A_ (Kd.R_elder' (rz_ HO_225000.out) (Kd.R_base ho0) hb)
               have n1_ := A_ (Kd.R_elder' (rz_ HO_229000.out) (Kd.R_base ho0) hb)
               have n2_ := A_ (Kd.R_elder' (rz_ HO_233000.out) (Kd.R_base ho0) hb)
               have n3_ := A_ (Kd.R_elder' (rz_ HO_238000.out) (Kd.R_base ho0) hb)
               have n4_ := A_ (Kd.R_elder' (rz_ HO257.out) (Kd.R_base ho0) hb)
               have n5_ := A_ (Kd.R_elder' (rz_ HO260.out) (Kd.R_base ho0) hb)
               have n6_ := A_ (Kd.R_lower (Kd.R_new' (Kd.R_new' (Kd.R_new' (Kd.R_new' (Kd.R_new' (Kd.R_new' ho0 (Kd.R_lt (rz_ HO_225000.out))) (Kd.R_lt (rz_ HO_229000.out))) (Kd.R_lt (rz_ HO_233000.out))) (Kd.R_lt (rz_ HO_238000.out))) (Kd.R_lt (rz_ HO257.out))) (Kd.R_lt (rz_ HO260.out))) (below_size (by repeat (first | (with_reducible first | exact HB.out | apply b1_ | apply b2_ | apply b3_ | apply c_ GE210 | apply c_ GE211 | apply c_ GE224 | apply c_ GE228 | apply c_ GE232 | apply c_ GE237 | apply c_ GE265) | exact HB.out))))
               have n7_ := A_ (blk_below (bz_ BK210.out) hb)
               have n8_ := A_ (blk_below (bz_ BK211.out) hb)
               have n9_ := A_ (blk_below (bz_ BK224.out) hb)
               have n10_ := A_ (blk_below (bz_ BK228.out) hb)
               have n11_ := A_ (blk_below (bz_ BK232.out) hb)
               have n12_ := A_ (blk_below (bz_ BK237.out) hb)
               have n13_ := A_ (blk_below (bz_ BK265.out) hb)
               have n14_ := A_ (below_step (by repeat (first | (with_reducible first | exact HB.out | apply b1_ | apply b2_ | apply b3_ | apply c_ GE210 | apply c_ GE211 | apply c_ GE224 | apply c_ GE228 | apply c_ GE232 | apply c_ GE237 | apply c_ GE265) | exact HB.out)) hb)
               clear HO_225000 HO_229000
               clear HO_233000 HO_238000
               clear HO257 HO260
               clear BK210 BK211
               clear BK224 BK228
               clear BK232 BK237
               clear BK265 HB
               have HO_225000 := n0_
               have HO_229000 := n1_
               have HO_233000 := n2_
               have HO_238000 := n3_
               have HO257 := n4_
               have HO260 := n5_
               have HO263 := n6_
               have BK210 := n7_
               have BK211 := n8_
               have BK224 := n9_
               have BK228 := n10_
               have BK232 := n11_
               have BK237 := n12_
               have BK265 := n13_
               have HB := n14_
               clear n0_ n1_ n2_ n3_ n4_ n5_ n6_ n7_ n8_ n9_ n10_ n11_ n12_ n13_ n14_
               (try clear hb)
               (try clear hb2)
               (try clear hk)
               (try clear hi)
               (try clear ho0)
               refine hK.out _ _ ⟨(blk_cell BK210.out 0).trans rfl, (blk_cell BK211.out 0).trans rfl⟩ (fun hHeld => ?_)
               clear hK K
               refine norm_ (a' := ?_) ?_ ?_
               rotate_left
               ·show Act.put _ (some 104) _ = _
                simp only [Act.put, List.setIfInBounds_toArray, List.set_cons_zero, List.set_cons_succ, i64_w, i32_w]
                rfl
               refine pure_ (i := 6) (N := some 98) (v := ?_) (a' := ?_) #[true, true, true, true, true, true, true, false, false, true, false, false] rfl rfl (any_of HT_.out (by kernel_rfl)) (fun _ _ _ h => h) (Or.inl ⟨by rfl, ?_⟩) ?_ ?_
               rotate_left
               ·intro w'
                go_simp
                with_reducible rfl
               rotate_left
               ·simp only [Act.put, List.setIfInBounds_toArray, List.set_cons_zero, List.set_cons_succ, i64_w, i32_w]
                rfl
               refine pure_ (i := 7) (N := some 105) (v := ?_) (a' := ?_) #[true, true, true, true, true, true, true, true, false, true, false, false] rfl rfl (any_of HT_.out (by kernel_rfl)) (fun _ _ _ h => h) (Or.inl ⟨by rfl, ?_⟩) ?_ ?_
               rotate_left
               ·intro w'
                go_simp
                with_reducible rfl
               rotate_left
               ·simp only [Act.put, List.setIfInBounds_toArray, List.set_cons_zero, List.set_cons_succ, i64_w, i32_w]
                rfl
               refine pure_ (i := 8) (N := some 106) (v := ?_) (a' := ?_) #[true, true, true, true, true, true, true, true, true, true, false, false] rfl rfl (any_of HT_.out (by kernel_rfl)) (fun _ _ _ h => h) (Or.inl ⟨by rfl, ?_⟩) ?_ ?_
               rotate_left
               ·intro w'
                go_simp
                with_reducible rfl
               rotate_left
               ·simp only [Act.put, List.setIfInBounds_toArray, List.set_cons_zero, List.set_cons_succ, i64_w, i32_w]
                rfl
               exact norm_ (by simp only [putAll, Act.put, List.setIfInBounds_toArray, List.set_cons_zero, List.set_cons_succ]) (hCont (.slice Ao179 t255.length co179, .slice Ao180 t258.length co180, v262, gb265) _ ⟨hHeld, (rz_ (Kd.R_mono HO257.out (fun _ hk => ⟨hk.1.2, ⟨hk.2, ⟨hk.1.1.1.1.1.2, ⟨hk.1.1.1.1.2, ⟨hk.1.1.1.2, hk.1.1.2⟩⟩⟩⟩⟩))), (rz_ (Kd.R_mono HO260.out (fun _ hk => ⟨hk.1.2, ⟨hk.2, ⟨hk.1.1.1.1.1.2, ⟨hk.1.1.1.1.2, ⟨hk.1.1.1.2, hk.1.1.2⟩⟩⟩⟩⟩))), (rz_ (Kd.R_mono HO263.out (fun _ hk => ⟨hk.1.2, ⟨hk.2, ⟨hk.1.1.1.1.1.2, ⟨hk.1.1.1.1.2, ⟨hk.1.1.1.2, hk.1.1.2⟩⟩⟩⟩⟩))), (rz_ (Kd.R_mono HO_225000.out (fun _ hk => ⟨hk.1.1.2, ⟨hk.1.2, ⟨hk.2, ⟨hk.1.1.1.1, ⟨hk.1.1.1.2.1, hk.1.1.1.2.2⟩⟩⟩⟩⟩))), (rz_ (Kd.R_mono HO_229000.out (fun _ hk => ⟨hk.1.1.2, ⟨hk.1.2, ⟨hk.2, ⟨hk.1.1.1.1, ⟨hk.1.1.1.2.1, hk.1.1.1.2.2⟩⟩⟩⟩⟩))), (rz_ (Kd.R_mono HO_233000.out (fun _ hk => ⟨hk.1.1.2, ⟨hk.1.2, ⟨hk.2, ⟨hk.1.1.1.1, ⟨hk.1.1.1.2.1, hk.1.1.1.2.2⟩⟩⟩⟩⟩))), (rz_ (Kd.R_mono HO_238000.out (fun _ hk => ⟨hk.1.1.2, ⟨hk.1.2, ⟨hk.2, ⟨hk.1.1.1.1, ⟨hk.1.1.1.2.1, hk.1.1.1.2.2⟩⟩⟩⟩⟩))), (bz_ BK210.out), (bz_ BK211.out), (bz_ BK224.out), (bz_ BK228.out), (bz_ BK232.out), (bz_ BK237.out), (bz_ BK265.out), GW265.out, GE265.out, NB210_265.out, NB265_210.out, NB211_265.out, NB265_211.out, NB224_265.out, NB265_224.out, NB228_265.out, NB265_228.out, NB232_265.out, NB265_232.out, NB237_265.out, NB265_237.out, (by repeat (first | (with_reducible first | exact HB.out | apply b1_ | apply b2_ | apply b3_ | apply c_ GE210 | apply c_ GE211 | apply c_ GE224 | apply c_ GE228 | apply c_ GE232 | apply c_ GE237 | apply c_ GE265) | exact HB.out))⟩)
             rintro ⟨v256, v259, v262, gb265⟩ w182 ⟨hS_, h0_, h1_, h2_, h3_, h4_, h5_, h6_, h7_, h8_, h9_, h10_, h11_, h12_, h13_, h14_, h15_, h16_, h17_, h18_, h19_, h20_, h21_, h22_, h23_, h24_, h25_, h26_, h27_, h28_⟩
             have n0_ : Aside0 (Kd.R k64 64 w182 w.heap.size (fun k_ => some k_ ≠ (v259 : Value).ownBlock ∧ some k_ ≠ (v262 : Value).ownBlock ∧ some k_ ≠ (.slice Ao42 t220.length co42 : Value).ownBlock ∧ some k_ ≠ (.slice Ao48 t248.length co48 : Value).ownBlock ∧ some k_ ≠ (.slice Ao57 t250.length co57 : Value).ownBlock ∧ some k_ ≠ (.slice Ao66 t233.length co66 : Value).ownBlock) v256 t255) := ⟨h0_⟩
             have n1_ : Aside0 (Kd.R k64 64 w182 w.heap.size (fun k_ => some k_ ≠ (v256 : Value).ownBlock ∧ some k_ ≠ (v262 : Value).ownBlock ∧ some k_ ≠ (.slice Ao42 t220.length co42 : Value).ownBlock ∧ some k_ ≠ (.slice Ao48 t248.length co48 : Value).ownBlock ∧ some k_ ≠ (.slice Ao57 t250.length co57 : Value).ownBlock ∧ some k_ ≠ (.slice Ao66 t233.length co66 : Value).ownBlock) v259 t258) := ⟨h1_⟩
             have n2_ : Aside0 (Kd.R k64 64 w182 w.heap.size (fun k_ => some k_ ≠ (v256 : Value).ownBlock ∧ some k_ ≠ (v259 : Value).ownBlock ∧ some k_ ≠ (.slice Ao42 t220.length co42 : Value).ownBlock ∧ some k_ ≠ (.slice Ao48 t248.length co48 : Value).ownBlock ∧ some k_ ≠ (.slice Ao57 t250.length co57 : Value).ownBlock ∧ some k_ ≠ (.slice Ao66 t233.length co66 : Value).ownBlock) v262 t261) := ⟨h2_⟩
             have n3_ : Aside0 (Kd.R k64 64 w182 w.heap.size (fun k_ => some k_ ≠ (v256 : Value).ownBlock ∧ some k_ ≠ (v259 : Value).ownBlock ∧ some k_ ≠ (v262 : Value).ownBlock ∧ some k_ ≠ (.slice Ao48 t248.length co48 : Value).ownBlock ∧ some k_ ≠ (.slice Ao57 t250.length co57 : Value).ownBlock ∧ some k_ ≠ (.slice Ao66 t233.length co66 : Value).ownBlock) (.slice Ao42 t220.length co42) t220) := ⟨h3_⟩
             have n4_ : Aside0 (Kd.R k64 64 w182 w.heap.size (fun k_ => some k_ ≠ (v256 : Value).ownBlock ∧ some k_ ≠ (v259 : Value).ownBlock ∧ some k_ ≠ (v262 : Value).ownBlock ∧ some k_ ≠ (.slice Ao42 t220.length co42 : Value).ownBlock ∧ some k_ ≠ (.slice Ao57 t250.length co57 : Value).ownBlock ∧ some k_ ≠ (.slice Ao66 t233.length co66 : Value).ownBlock) (.slice Ao48 t248.length co48) t248) := ⟨h4_⟩
             have n5_ : Aside0 (Kd.R k64 64 w182 w.heap.size (fun k_ => some k_ ≠ (v256 : Value).ownBlock ∧ some k_ ≠ (v259 : Value).ownBlock ∧ some k_ ≠ (v262 : Value).ownBlock ∧ some k_ ≠ (.slice Ao42 t220.length co42 : Value).ownBlock ∧ some k_ ≠ (.slice Ao48 t248.length co48 : Value).ownBlock ∧ some k_ ≠ (.slice Ao66 t233.length co66 : Value).ownBlock) (.slice Ao57 t250.length co57) t250) := ⟨h5_⟩
             have n6_ : Aside0 (Kd.R k64 64 w182 w.heap.size (fun k_ => some k_ ≠ (v256 : Value).ownBlock ∧ some k_ ≠ (v259 : Value).ownBlock ∧ some k_ ≠ (v262 : Value).ownBlock ∧ some k_ ≠ (.slice Ao42 t220.length co42 : Value).ownBlock ∧ some k_ ≠ (.slice Ao48 t248.length co48 : Value).ownBlock ∧ some k_ ≠ (.slice Ao57 t250.length co57 : Value).ownBlock) (.slice Ao66 t233.length co66) t253) := ⟨h6_⟩
             have n7_ : Aside0 (w182.heap[gb210]? = some (.cells #[.slice A1_0 l1_0.length c1_0] 32 (0, 0))) := ⟨h7_⟩
             have n8_ : Aside0 (w182.heap[gb211]? = some (.cells #[.slice A2_0 l2_0.length c2_0] 32 (0, 0))) := ⟨h8_⟩
             have n9_ : Aside0 (w182.heap[gb224]? = some (.cells #[.slice Ao42 t220.length co42] 37 (0, 0))) := ⟨h9_⟩
             have n10_ : Aside0 (w182.heap[gb228]? = some (.cells #[.slice Ao48 t248.length co48] 37 (0, 0))) := ⟨h10_⟩
             have n11_ : Aside0 (w182.heap[gb232]? = some (.cells #[.slice Ao57 t250.length co57] 37 (0, 0))) := ⟨h11_⟩
             have n12_ : Aside0 (w182.heap[gb237]? = some (.cells #[.slice Ao66 t233.length co66] 37 (0, 0))) := ⟨h12_⟩
             have n13_ : Aside0 (w182.heap[gb265]? = some (.cells #[.slice none 0 0] 37 (0, 0))) := ⟨h13_⟩
             have n14_ : Aside0 (w.heap.size ≤ gb265) := ⟨h14_⟩
             have n15_ : Aside0 (w.heap.size ≤ gb265) := ⟨h15_⟩
             have n16_ : Aside0 (gb210 ≠ gb265) := ⟨h16_⟩
             have n17_ : Aside0 (gb265 ≠ gb210) := ⟨h17_⟩
             have n18_ : Aside0 (gb211 ≠ gb265) := ⟨h18_⟩
             have n19_ : Aside0 (gb265 ≠ gb211) := ⟨h19_⟩
             have n20_ : Aside0 (gb224 ≠ gb265) := ⟨h20_⟩
             have n21_ : Aside0 (gb265 ≠ gb224) := ⟨h21_⟩
             have n22_ : Aside0 (gb228 ≠ gb265) := ⟨h22_⟩
             have n23_ : Aside0 (gb265 ≠ gb228) := ⟨h23_⟩
             have n24_ : Aside0 (gb232 ≠ gb265) := ⟨h24_⟩
             have n25_ : Aside0 (gb265 ≠ gb232) := ⟨h25_⟩
             have n26_ : Aside0 (gb237 ≠ gb265) := ⟨h26_⟩
             have n27_ : Aside0 (gb265 ≠ gb237) := ⟨h27_⟩
             have n28_ : Aside0 (Below w.heap.size w w182) := ⟨h28_⟩
             clear HO_225000 HO_229000
             clear HO_233000 HO_238000
             clear BK210 BK211
             clear BK224 BK228
             clear BK232 BK237 HB
             clear h0_ h1_ h2_ h3_ h4_ h5_ h6_ h7_ h8_ h9_ h10_ h11_ h12_ h13_ h14_ h15_ h16_ h17_ h18_ h19_ h20_ h21_ h22_ h23_ h24_ h25_ h26_ h27_ h28_
             have HO257 := n0_
             have HO260 := n1_
             have HO263 := n2_
             have HO_225000 := n3_
             have HO_229000 := n4_
             have HO_233000 := n5_
             have HO_238000 := n6_
             have BK210 := n7_
             have BK211 := n8_
             have BK224 := n9_
             have BK228 := n10_
             have BK232 := n11_
             have BK237 := n12_
             have BK265 := n13_
             have GW265 := n14_
             have GE265 := n15_
             have NB210_265 := n16_
             have NB265_210 := n17_
             have NB211_265 := n18_
             have NB265_211 := n19_
             have NB224_265 := n20_
             have NB265_224 := n21_
             have NB228_265 := n22_
             have NB265_228 := n23_
             have NB232_265 := n24_
             have NB265_232 := n25_
             have NB237_265 := n26_
             have NB265_237 := n27_
             have HB := n28_
             clear n0_ n1_ n2_ n3_ n4_ n5_ n6_ n7_ n8_ n9_ n10_ n11_ n12_ n13_ n14_ n15_ n16_ n17_ n18_ n19_ n20_ n21_ n22_ n23_ n24_ n25_ n26_ n27_ n28_
             have hHeld : w182.cell? ⟨gb210, 0, none⟩ = some (.slice A1_0 l1_0.length c1_0) ∧ w182.cell? ⟨gb211, 0, none⟩ = some (.slice A2_0 l2_0.length c2_0) := hS_
             obtain ⟨Ao183, co183, eo183⟩ := Kd.R_slice HO263.out
             (first | subst eo183 | (injection eo183 with f1_ f2_ f3_; have f4_ := f1_.symm; have f5_ := f3_.symm; clear f1_ f2_ f3_; subst f4_; subst f5_))
             refine norm_ (a' := ?_) ?_ ?_
             rotate_left
             ·simp only [putAll, Act.put, List.setIfInBounds_toArray, List.set_cons_zero, List.set_cons_succ]
              rfl
             refine one_ (i := 10) (N := none) #[true, true, true, true, true, true, true, true, true, true, true, false] rfl rfl (one_of HT_.out (by kernel_rfl)) (by decide) (fun K hK => ?_)
             have hs184 : w182.cell? ⟨gb265, 0, none⟩ = some (.slice none 0 0) := (blk_cell BK265.out 0).trans rfl
             have hfs184 := blk_frozen BK265.out 0
             have hns184_0 := NB210_265.out
             have hns184_1 := NB211_265.out
             have hns184_2 := NB224_265.out
             have hns184_3 := NB228_265.out
             have hns184_4 := NB232_265.out
             have hns184_5 := NB237_265.out
             have hms184_0 := NB265_210.out
             have hms184_1 := NB265_211.out
             have hms184_2 := NB265_224.out
             have hms184_3 := NB265_228.out
             have hms184_4 := NB265_232.out
             have hms184_5 := NB265_237.out
             refine skip_ (w1 := ?_) (by rfl) rfl ?_ ?_
             rotate_left
             ·go_simp
              rfl
             refine hK.out _ _ ⟨((cell_far (p := ⟨gb265, _, none⟩) NB210_265.out _).trans (hHeld.1)), ((cell_far (p := ⟨gb265, _, none⟩) NB211_265.out _).trans (hHeld.2))⟩ (fun hHeld => ?_)
             clear hK K
             refine pure_ (i := 11) (N := some 18) (v := ?_) (a' := ?_) #[true, true, true, true, true, true, true, true, true, true, true, true] rfl rfl (any_of HT_.out (by kernel_rfl)) (fun _ _ _ h => h) (Or.inl ⟨by rfl, ?_⟩) ?_ ?_
             rotate_left
             ·intro w'
              go_simp
              with_reducible rfl
             rotate_left
             ·simp only [Act.put, List.setIfInBounds_toArray, List.set_cons_zero, List.set_cons_succ, i64_w, i32_w]
              rfl
             refine done_ (done_of HT_.out (by kernel_rfl)) ?_
             go_upto_region 32 with (fail)
             go_cut [115] (fun v115 wc => ∃ (kq : Nat) (x115_164 : Bool), v115 = .bool x115_164 ∧ Aside0 (laws_FnExactBoxMeet.j2 kq t252 x115_164 t253 = some r) ∧ Aside0 (kq ≤ kj107) ∧ Aside0 (Kd.R k64 64 wc w.heap.size (fun k_ => some k_ ≠ ((.slice Ao48 t248.length co48) : Value).ownBlock ∧ some k_ ≠ ((.slice Ao57 t250.length co57) : Value).ownBlock ∧ some k_ ≠ ((.slice Ao66 t233.length co66) : Value).ownBlock ∧ some k_ ≠ ((.slice Ao183 t261.length co183) : Value).ownBlock) (.slice Ao42 t220.length co42) t220) ∧ Aside0 (Kd.R k64 64 wc w.heap.size (fun k_ => some k_ ≠ ((.slice Ao42 t220.length co42) : Value).ownBlock ∧ some k_ ≠ ((.slice Ao57 t250.length co57) : Value).ownBlock ∧ some k_ ≠ ((.slice Ao66 t233.length co66) : Value).ownBlock ∧ some k_ ≠ ((.slice Ao183 t261.length co183) : Value).ownBlock) (.slice Ao48 t248.length co48) t248) ∧ Aside0 (Kd.R k64 64 wc w.heap.size (fun k_ => some k_ ≠ ((.slice Ao42 t220.length co42) : Value).ownBlock ∧ some k_ ≠ ((.slice Ao48 t248.length co48) : Value).ownBlock ∧ some k_ ≠ ((.slice Ao66 t233.length co66) : Value).ownBlock ∧ some k_ ≠ ((.slice Ao183 t261.length co183) : Value).ownBlock) (.slice Ao57 t250.length co57) t250) ∧ Aside0 (Kd.R k64 64 wc w.heap.size (fun k_ => some k_ ≠ ((.slice Ao42 t220.length co42) : Value).ownBlock ∧ some k_ ≠ ((.slice Ao48 t248.length co48) : Value).ownBlock ∧ some k_ ≠ ((.slice Ao57 t250.length co57) : Value).ownBlock ∧ some k_ ≠ ((.slice Ao183 t261.length co183) : Value).ownBlock) (.slice Ao66 t233.length co66) t253) ∧ Aside0 (Kd.R k64 64 wc w.heap.size (fun k_ => some k_ ≠ ((.slice Ao42 t220.length co42) : Value).ownBlock ∧ some k_ ≠ ((.slice Ao48 t248.length co48) : Value).ownBlock ∧ some k_ ≠ ((.slice Ao57 t250.length co57) : Value).ownBlock ∧ some k_ ≠ ((.slice Ao66 t233.length co66) : Value).ownBlock) (.slice Ao183 t261.length co183) t261) ∧ Aside0 (wc.heap[gb210]? = some (.cells #[(.slice A1_0 l1_0.length c1_0)] 32 (0, 0))) ∧ Aside0 (wc.heap[gb211]? = some (.cells #[(.slice A2_0 l2_0.length c2_0)] 32 (0, 0))) ∧ Aside0 (wc.heap[gb224]? = some (.cells #[(.slice Ao42 t220.length co42)] 37 (0, 0))) ∧ Aside0 (wc.heap[gb228]? = some (.cells #[(.slice Ao48 t248.length co48)] 37 (0, 0))) ∧ Aside0 (wc.heap[gb232]? = some (.cells #[(.slice Ao57 t250.length co57)] 37 (0, 0))) ∧ Aside0 (wc.heap[gb237]? = some (.cells #[(.slice Ao66 t233.length co66)] 37 (0, 0))) ∧ Aside0 (wc.heap[gb265]? = some (.cells #[(.slice Ao183 t261.length co183)] 37 (0, 0))) ∧ Aside0 (Below w.heap.size w wc))
             case first =>
              have H := HC165.out
              clear HC165
              replace H := Option.bind_eq_some_iff.mp H
              obtain ⟨t266, A1850, H⟩ := H
              replace H : (if t266 = true then (laws_FnExactBoxMeet.j2 kj107 t252 (t264 != t223) t253) else (laws_FnExactBoxMeet.j2 kj107 t252 true t253)) = some r := H
              have A185 := A_ A1850
              clear A1850
              by_cases c186 : t266 = true
              ·subst c186
               have H1 : (laws_FnExactBoxMeet.j2 kj107 t252 (t264 != t223) t253) = some r := by rw [if_pos rfl] at H; exact H
               clear H
               have H := H1
               clear H1
               have H' := A_ H
               clear H
               have hnb187 := NB265_210.out
               have hnc187 := NB210_265.out
               have hnb188 := NB265_211.out
               have hnc188 := NB211_265.out
               have hnb189 := NB265_224.out
               have hnc189 := NB224_265.out
               have hnb190 := NB265_228.out
               have hnc190 := NB228_265.out
               have hnb191 := NB265_232.out
               have hnc191 := NB232_265.out
               have hnb192 := NB265_237.out
               have hnc192 := NB237_265.out
               have hcz193_0 : w182.cell? ⟨gb265, 0, none⟩ = some (.slice none 0 0) := (blk_cell BK265.out 0).trans rfl
               have hfz193_0 := blk_frozen BK265.out 0
               have hnb194 := NB224_210.out
               have hnc194 := NB210_224.out
               have hnb195 := NB224_211.out
               have hnc195 := NB211_224.out
               have hnb196 := NB224_228.out
               have hnc196 := NB228_224.out
               have hnb197 := NB224_232.out
               have hnc197 := NB232_224.out
               have hnb198 := NB224_237.out
               have hnc198 := NB237_224.out
               have hcz199_0 : w182.cell? ⟨gb224, 0, none⟩ = some (.slice Ao42 t220.length co42) := (blk_cell BK224.out 0).trans rfl
               have hfz199_0 := blk_frozen BK224.out 0
               go_wp2_with (first | ((with_reducible refine gate_callee (f := 17) rfl ?_); refine goesL_ (some 109) rfl rfl Try.func17 (by kernel_rfl) rfl #[.agg #[.slice Ao183 t261.length co183], .agg #[.slice Ao42 t220.length co42]] rfl (by (try simp only [List.map_toArray, List.map_cons, List.map_nil]); first | done | rfl) ?_; (with_reducible refine (laws_eqBox.calls kj107 _ _ t261 _ _ t220 true _ ?side1 ?side2 ?side3 ?side4 A185.out).mono ?_); (case side1 => refine (Kd.R_reads' (e := 64) (base := w.heap.size) (ok := fun k_ => (some k_ ≠ (v256 : Value).ownBlock ∧ (some k_ ≠ (v259 : Value).ownBlock ∧ (some k_ ≠ (.slice Ao42 t220.length co42 : Value).ownBlock ∧ (some k_ ≠ (.slice Ao48 t248.length co48 : Value).ownBlock ∧ (some k_ ≠ (.slice Ao57 t250.length co57 : Value).ownBlock ∧ some k_ ≠ (.slice Ao66 t233.length co66 : Value).ownBlock)))))) (n := t261.length) (c := co183) ?_).2.2; exact (rz_ (rs_ HO263.out BK265.out (by decide) (.slice Ao183 t261.length co183)))); (case side2 => exact (Kd.R_reads' HO263.out).2.1); (case side3 => refine (Kd.R_reads' (e := 64) (base := w.heap.size) (ok := fun k_ => (some k_ ≠ (v256 : Value).ownBlock ∧ (some k_ ≠ (v259 : Value).ownBlock ∧ (some k_ ≠ (.slice Ao183 t261.length co183 : Value).ownBlock ∧ (some k_ ≠ (.slice Ao48 t248.length co48 : Value).ownBlock ∧ (some k_ ≠ (.slice Ao57 t250.length co57 : Value).ownBlock ∧ some k_ ≠ (.slice Ao66 t233.length co66 : Value).ownBlock)))))) (n := t220.length) (c := co42) ?_).2.2; exact (rz_ (rs_ HO_225000.out BK265.out (by decide) (.slice Ao183 t261.length co183)))); (case side4 => exact (Kd.R_reads' HO_225000.out).2.1); rintro e w200 ⟨rfl, hb⟩; refine ⟨_, rfl, ?_⟩; have n0_ := A_ (Kd.R_below (rz_ (rs_ HO_225000.out BK265.out (by decide) (.slice Ao183 t261.length co183))) hb); have n1_ := A_ (Kd.R_below (rz_ (rs_ HO_229000.out BK265.out (by decide) (.slice Ao183 t261.length co183))) hb); have n2_ := A_ (Kd.R_below (rz_ (rs_ HO_233000.out BK265.out (by decide) (.slice Ao183 t261.length co183))) hb); have n3_ := A_ (Kd.R_below (rz_ (rs_ HO_238000.out BK265.out (by decide) (.slice Ao183 t261.length co183))) hb); have n4_ := A_ (Kd.R_below (rz_ (rs_ HO257.out BK265.out (by decide) (.slice Ao183 t261.length co183))) hb); have n5_ := A_ (Kd.R_below (rz_ (rs_ HO260.out BK265.out (by decide) (.slice Ao183 t261.length co183))) hb); have n6_ := A_ (Kd.R_below (rz_ (rs_ HO263.out BK265.out (by decide) (.slice Ao183 t261.length co183))) hb); have n7_ := A_ (blk_below (bz_ (bf_ (bz_ BK210.out) NB210_265.out)) hb); have n8_ := A_ (blk_below (bz_ (bf_ (bz_ BK211.out) NB211_265.out)) hb); have n9_ := A_ (blk_below (bz_ (bf_ (bz_ BK224.out) NB224_265.out)) hb); have n10_ := A_ (blk_below (bz_ (bf_ (bz_ BK228.out) NB228_265.out)) hb); have n11_ := A_ (blk_below (bz_ (bf_ (bz_ BK232.out) NB232_265.out)) hb); have n12_ := A_ (blk_below (bz_ (bf_ (bz_ BK237.out) NB237_265.out)) hb); have n13_ := A_ (blk_below (g := gb265) (o := .cells #[.slice Ao183 t261.length co183] 37 (0, 0)) (by (with_reducible repeat (first | apply bn_ | apply bd_ | apply ba_)); refine blk_put (cs := #[.slice none 0 0]) ?_ 0 _ (by first | rfl | (simp [*]; done)); (with_reducible repeat (first | apply bn_ | apply bd_ | apply ba_)); exact BK265.out) hb); have n14_ := A_ (below_step (by repeat (first | (with_reducible first | exact HB.out | apply b1_ | apply b2_ | apply b3_ | apply c_ GE210 | apply c_ GE211 | apply c_ GE224 | apply c_ GE228 | apply c_ GE232 | apply c_ GE237 | apply c_ GE265) | exact HB.out)) hb); clear HO_225000 HO_229000 HO_233000 HO_238000 HO257 HO260 HO263 BK210 BK211 BK224 BK228 BK232 BK237 BK265 HB; have HO_225000 := n0_; have HO_229000 := n1_; have HO_233000 := n2_; have HO_238000 := n3_; have HO257 := n4_; have HO260 := n5_; have HO263 := n6_; have BK210 := n7_; have BK211 := n8_; have BK224 := n9_; have BK228 := n10_; have BK232 := n11_; have BK237 := n12_; have BK265 := n13_; have HB := n14_; clear n0_ n1_ n2_ n3_ n4_ n5_ n6_ n7_ n8_ n9_ n10_ n11_ n12_ n13_ n14_; (try clear hb); (try clear hb2); (try clear hk); (try clear hi)))
               go_meet
               case rel => exact ⟨_, ((t264 != t223)), (by first | rfl | (simp; done) | (simp [*]; done)), H', ⟨by have := HJ25.out; have := HJ107.out; first | omega | exact Nat.le_refl _⟩, ⟨by (try simp only [hl229000_107]); (try simp only [hl233000_107]); (with_reducible repeat (first | apply Kd.R_alloc | apply Kd.R_drewN | apply Kd.R_drew)); exact Kd.R_mono HO_225000.out (fun _ hk => ⟨hk.2.2.2.1, ⟨hk.2.2.2.2.1, ⟨hk.2.2.2.2.2, hk.2.2.1⟩⟩⟩)⟩, ⟨by (try simp only [hl229000_107]); (try simp only [hl233000_107]); (with_reducible repeat (first | apply Kd.R_alloc | apply Kd.R_drewN | apply Kd.R_drew)); exact Kd.R_mono HO_229000.out (fun _ hk => ⟨hk.2.2.2.1, ⟨hk.2.2.2.2.1, ⟨hk.2.2.2.2.2, hk.2.2.1⟩⟩⟩)⟩, ⟨by (try simp only [hl229000_107]); (try simp only [hl233000_107]); (with_reducible repeat (first | apply Kd.R_alloc | apply Kd.R_drewN | apply Kd.R_drew)); exact Kd.R_mono HO_233000.out (fun _ hk => ⟨hk.2.2.2.1, ⟨hk.2.2.2.2.1, ⟨hk.2.2.2.2.2, hk.2.2.1⟩⟩⟩)⟩, ⟨by (try simp only [hl229000_107]); (try simp only [hl233000_107]); (with_reducible repeat (first | apply Kd.R_alloc | apply Kd.R_drewN | apply Kd.R_drew)); exact Kd.R_mono HO_238000.out (fun _ hk => ⟨hk.2.2.2.1, ⟨hk.2.2.2.2.1, ⟨hk.2.2.2.2.2, hk.2.2.1⟩⟩⟩)⟩, ⟨by (try simp only [hl229000_107]); (try simp only [hl233000_107]); (with_reducible repeat (first | apply Kd.R_alloc | apply Kd.R_drewN | apply Kd.R_drew)); exact Kd.R_mono HO263.out (fun _ hk => ⟨hk.2.2.1, ⟨hk.2.2.2.1, ⟨hk.2.2.2.2.1, hk.2.2.2.2.2⟩⟩⟩)⟩, ⟨by (try simp only [hl229000_107]); (try simp only [hl233000_107]); (with_reducible repeat (first | apply bn_ | apply bd_ | apply ba_)); exact BK210.out⟩, ⟨by (try simp only [hl229000_107]); (try simp only [hl233000_107]); (with_reducible repeat (first | apply bn_ | apply bd_ | apply ba_)); exact BK211.out⟩, ⟨by (try simp only [hl229000_107]); (try simp only [hl233000_107]); (with_reducible repeat (first | apply bn_ | apply bd_ | apply ba_)); exact BK224.out⟩, ⟨by (try simp only [hl229000_107]); (try simp only [hl233000_107]); (with_reducible repeat (first | apply bn_ | apply bd_ | apply ba_)); exact BK228.out⟩, ⟨by (try simp only [hl229000_107]); (try simp only [hl233000_107]); (with_reducible repeat (first | apply bn_ | apply bd_ | apply ba_)); exact BK232.out⟩, ⟨by (try simp only [hl229000_107]); (try simp only [hl233000_107]); (with_reducible repeat (first | apply bn_ | apply bd_ | apply ba_)); exact BK237.out⟩, ⟨by (try simp only [hl229000_107]); (try simp only [hl233000_107]); (with_reducible repeat (first | apply bn_ | apply bd_ | apply ba_)); exact BK265.out⟩, ⟨by repeat (first | (with_reducible first | exact HB.out | apply b1_ | apply b2_ | apply b3_ | apply c_ GE210 | apply c_ GE211 | apply c_ GE224 | apply c_ GE228 | apply c_ GE232 | apply c_ GE237 | apply c_ GE265) | exact HB.out)⟩⟩
              ·replace c186 := Bool.eq_false_iff.mpr c186
               subst c186
               have H1 : (laws_FnExactBoxMeet.j2 kj107 t252 true t253) = some r := by rw [if_neg (show ¬ (false = true) by decide)] at H; exact H
               clear H
               have H := H1
               clear H1
               have H' := A_ H
               clear H
               have hnb201 := NB265_210.out
               have hnc201 := NB210_265.out
               have hnb202 := NB265_211.out
               have hnc202 := NB211_265.out
               have hnb203 := NB265_224.out
               have hnc203 := NB224_265.out
               have hnb204 := NB265_228.out
               have hnc204 := NB228_265.out
               have hnb205 := NB265_232.out
               have hnc205 := NB232_265.out
               have hnb206 := NB265_237.out
               have hnc206 := NB237_265.out
               have hcz207_0 : w182.cell? ⟨gb265, 0, none⟩ = some (.slice none 0 0) := (blk_cell BK265.out 0).trans rfl
               have hfz207_0 := blk_frozen BK265.out 0
               have hnb208 := NB224_210.out
               have hnc208 := NB210_224.out
               have hnb209 := NB224_211.out
               have hnc209 := NB211_224.out
               have hnb210 := NB224_228.out
               have hnc210 := NB228_224.out
               have hnb211 := NB224_232.out
               have hnc211 := NB232_224.out
               have hnb212 := NB224_237.out
               have hnc212 := NB237_224.out
               have hcz213_0 : w182.cell? ⟨gb224, 0, none⟩ = some (.slice Ao42 t220.length co42) := (blk_cell BK224.out 0).trans rfl
               have hfz213_0 := blk_frozen BK224.out 0
               go_wp2_with (first | ((with_reducible refine gate_callee (f := 17) rfl ?_); refine goesL_ (some 109) rfl rfl Try.func17 (by kernel_rfl) rfl #[.agg #[.slice Ao183 t261.length co183], .agg #[.slice Ao42 t220.length co42]] rfl (by (try simp only [List.map_toArray, List.map_cons, List.map_nil]); first | done | rfl) ?_; (with_reducible refine (laws_eqBox.calls kj107 _ _ t261 _ _ t220 false _ ?side1 ?side2 ?side3 ?side4 A185.out).mono ?_); (case side1 => refine (Kd.R_reads' (e := 64) (base := w.heap.size) (ok := fun k_ => (some k_ ≠ (v256 : Value).ownBlock ∧ (some k_ ≠ (v259 : Value).ownBlock ∧ (some k_ ≠ (.slice Ao42 t220.length co42 : Value).ownBlock ∧ (some k_ ≠ (.slice Ao48 t248.length co48 : Value).ownBlock ∧ (some k_ ≠ (.slice Ao57 t250.length co57 : Value).ownBlock ∧ some k_ ≠ (.slice Ao66 t233.length co66 : Value).ownBlock)))))) (n := t261.length) (c := co183) ?_).2.2; exact (rz_ (rs_ HO263.out BK265.out (by decide) (.slice Ao183 t261.length co183)))); (case side2 => exact (Kd.R_reads' HO263.out).2.1); (case side3 => refine (Kd.R_reads' (e := 64) (base := w.heap.size) (ok := fun k_ => (some k_ ≠ (v256 : Value).ownBlock ∧ (some k_ ≠ (v259 : Value).ownBlock ∧ (some k_ ≠ (.slice Ao183 t261.length co183 : Value).ownBlock ∧ (some k_ ≠ (.slice Ao48 t248.length co48 : Value).ownBlock ∧ (some k_ ≠ (.slice Ao57 t250.length co57 : Value).ownBlock ∧ some k_ ≠ (.slice Ao66 t233.length co66 : Value).ownBlock)))))) (n := t220.length) (c := co42) ?_).2.2; exact (rz_ (rs_ HO_225000.out BK265.out (by decide) (.slice Ao183 t261.length co183)))); (case side4 => exact (Kd.R_reads' HO_225000.out).2.1); rintro e w214 ⟨rfl, hb⟩; refine ⟨_, rfl, ?_⟩; have n0_ := A_ (Kd.R_below (rz_ (rs_ HO_225000.out BK265.out (by decide) (.slice Ao183 t261.length co183))) hb); have n1_ := A_ (Kd.R_below (rz_ (rs_ HO_229000.out BK265.out (by decide) (.slice Ao183 t261.length co183))) hb); have n2_ := A_ (Kd.R_below (rz_ (rs_ HO_233000.out BK265.out (by decide) (.slice Ao183 t261.length co183))) hb); have n3_ := A_ (Kd.R_below (rz_ (rs_ HO_238000.out BK265.out (by decide) (.slice Ao183 t261.length co183))) hb); have n4_ := A_ (Kd.R_below (rz_ (rs_ HO257.out BK265.out (by decide) (.slice Ao183 t261.length co183))) hb); have n5_ := A_ (Kd.R_below (rz_ (rs_ HO260.out BK265.out (by decide) (.slice Ao183 t261.length co183))) hb); have n6_ := A_ (Kd.R_below (rz_ (rs_ HO263.out BK265.out (by decide) (.slice Ao183 t261.length co183))) hb); have n7_ := A_ (blk_below (bz_ (bf_ (bz_ BK210.out) NB210_265.out)) hb); have n8_ := A_ (blk_below (bz_ (bf_ (bz_ BK211.out) NB211_265.out)) hb); have n9_ := A_ (blk_below (bz_ (bf_ (bz_ BK224.out) NB224_265.out)) hb); have n10_ := A_ (blk_below (bz_ (bf_ (bz_ BK228.out) NB228_265.out)) hb); have n11_ := A_ (blk_below (bz_ (bf_ (bz_ BK232.out) NB232_265.out)) hb); have n12_ := A_ (blk_below (bz_ (bf_ (bz_ BK237.out) NB237_265.out)) hb); have n13_ := A_ (blk_below (g := gb265) (o := .cells #[.slice Ao183 t261.length co183] 37 (0, 0)) (by (with_reducible repeat (first | apply bn_ | apply bd_ | apply ba_)); refine blk_put (cs := #[.slice none 0 0]) ?_ 0 _ (by first | rfl | (simp [*]; done)); (with_reducible repeat (first | apply bn_ | apply bd_ | apply ba_)); exact BK265.out) hb); have n14_ := A_ (below_step (by repeat (first | (with_reducible first | exact HB.out | apply b1_ | apply b2_ | apply b3_ | apply c_ GE210 | apply c_ GE211 | apply c_ GE224 | apply c_ GE228 | apply c_ GE232 | apply c_ GE237 | apply c_ GE265) | exact HB.out)) hb); clear HO_225000 HO_229000 HO_233000 HO_238000 HO257 HO260 HO263 BK210 BK211 BK224 BK228 BK232 BK237 BK265 HB; have HO_225000 := n0_; have HO_229000 := n1_; have HO_233000 := n2_; have HO_238000 := n3_; have HO257 := n4_; have HO260 := n5_; have HO263 := n6_; have BK210 := n7_; have BK211 := n8_; have BK224 := n9_; have BK228 := n10_; have BK232 := n11_; have BK237 := n12_; have BK265 := n13_; have HB := n14_; clear n0_ n1_ n2_ n3_ n4_ n5_ n6_ n7_ n8_ n9_ n10_ n11_ n12_ n13_ n14_; (try clear hb); (try clear hb2); (try clear hk); (try clear hi)))
               go_meet
               case rel => exact ⟨_, (true), (by first | rfl | (simp; done) | (simp [*]; done)), H', ⟨by have := HJ25.out; have := HJ107.out; first | omega | exact Nat.le_refl _⟩, ⟨by (try simp only [hl229000_107]); (try simp only [hl233000_107]); (with_reducible repeat (first | apply Kd.R_alloc | apply Kd.R_drewN | apply Kd.R_drew)); exact Kd.R_mono HO_225000.out (fun _ hk => ⟨hk.2.2.2.1, ⟨hk.2.2.2.2.1, ⟨hk.2.2.2.2.2, hk.2.2.1⟩⟩⟩)⟩, ⟨by (try simp only [hl229000_107]); (try simp only [hl233000_107]); (with_reducible repeat (first | apply Kd.R_alloc | apply Kd.R_drewN | apply Kd.R_drew)); exact Kd.R_mono HO_229000.out (fun _ hk => ⟨hk.2.2.2.1, ⟨hk.2.2.2.2.1, ⟨hk.2.2.2.2.2, hk.2.2.1⟩⟩⟩)⟩, ⟨by (try simp only [hl229000_107]); (try simp only [hl233000_107]); (with_reducible repeat (first | apply Kd.R_alloc | apply Kd.R_drewN | apply Kd.R_drew)); exact Kd.R_mono HO_233000.out (fun _ hk => ⟨hk.2.2.2.1, ⟨hk.2.2.2.2.1, ⟨hk.2.2.2.2.2, hk.2.2.1⟩⟩⟩)⟩, ⟨by (try simp only [hl229000_107]); (try simp only [hl233000_107]); (with_reducible repeat (first | apply Kd.R_alloc | apply Kd.R_drewN | apply Kd.R_drew)); exact Kd.R_mono HO_238000.out (fun _ hk => ⟨hk.2.2.2.1, ⟨hk.2.2.2.2.1, ⟨hk.2.2.2.2.2, hk.2.2.1⟩⟩⟩)⟩, ⟨by (try simp only [hl229000_107]); (try simp only [hl233000_107]); (with_reducible repeat (first | apply Kd.R_alloc | apply Kd.R_drewN | apply Kd.R_drew)); exact Kd.R_mono HO263.out (fun _ hk => ⟨hk.2.2.1, ⟨hk.2.2.2.1, ⟨hk.2.2.2.2.1, hk.2.2.2.2.2⟩⟩⟩)⟩, ⟨by (try simp only [hl229000_107]); (try simp only [hl233000_107]); (with_reducible repeat (first | apply bn_ | apply bd_ | apply ba_)); exact BK210.out⟩, ⟨by (try simp only [hl229000_107]); (try simp only [hl233000_107]); (with_reducible repeat (first | apply bn_ | apply bd_ | apply ba_)); exact BK211.out⟩, ⟨by (try simp only [hl229000_107]); (try simp only [hl233000_107]); (with_reducible repeat (first | apply bn_ | apply bd_ | apply ba_)); exact BK224.out⟩, ⟨by (try simp only [hl229000_107]); (try simp only [hl233000_107]); (with_reducible repeat (first | apply bn_ | apply bd_ | apply ba_)); exact BK228.out⟩, ⟨by (try simp only [hl229000_107]); (try simp only [hl233000_107]); (with_reducible repeat (first | apply bn_ | apply bd_ | apply ba_)); exact BK232.out⟩, ⟨by (try simp only [hl229000_107]); (try simp only [hl233000_107]); (with_reducible repeat (first | apply bn_ | apply bd_ | apply ba_)); exact BK237.out⟩, ⟨by (try simp only [hl229000_107]); (try simp only [hl233000_107]); (with_reducible repeat (first | apply bn_ | apply bd_ | apply ba_)); exact BK265.out⟩, ⟨by repeat (first | (with_reducible first | exact HB.out | apply b1_ | apply b2_ | apply b3_ | apply c_ GE210 | apply c_ GE211 | apply c_ GE224 | apply c_ GE228 | apply c_ GE232 | apply c_ GE237 | apply c_ GE265) | exact HB.out)⟩⟩
             case rest =>
              clear HC165
              (try clear c1); (try clear c2); (try clear p2); (try clear c15); (try clear c17); (try clear c18); (try clear c19); (try clear c20); (try clear c21); (try clear c27); (try clear c186); (try clear c187); (try clear c188); (try clear c189); (try clear c190); (try clear c191); (try clear c192); (try clear c194); (try clear c195); (try clear c196); (try clear c197); (try clear c198); (try clear c201); (try clear c202); (try clear c203); (try clear c204); (try clear c205); (try clear c206); (try clear c208); (try clear c209); (try clear c210); (try clear c211); (try clear c212); (try clear hcz193_0); (try clear hcz199_0); (try clear hcz207_0); (try clear hcz213_0); (try clear hfz193_0); (try clear hfz199_0); (try clear hfz207_0); (try clear hfz213_0)
              obtain ⟨kq, x115_164, rfl, HA, HJ164, HO_225000, HO_229000, HO_233000, HO_238000, HO_266000, BK210, BK211, BK224, BK228, BK232, BK237, BK265, HB⟩ := hcut
              have hl238000_164 := (Kd.R_reads' HO_238000.out).1
              rw [hl238000_164] at HO_238000
              (try simp only [hl238000_164])
              (try simp only [hl238000_164] at BK210)
              (try simp only [hl238000_164] at BK211)
              (try simp only [hl238000_164] at BK224)
              (try simp only [hl238000_164] at BK228)
              (try simp only [hl238000_164] at BK232)
              (try simp only [hl238000_164] at BK237)
              (try simp only [hl238000_164] at BK265)
              (try simp only [hl238000_164] at HO_225000)
              (try simp only [hl238000_164] at HO_229000)
              (try simp only [hl238000_164] at HO_233000)
              (try simp only [hl238000_164] at HO_266000)
              cases kq with
              | zero => exact absurd HA.out (by simp [laws_FnExactBoxMeet.j2])
              | succ kj164 =>
               have H := HA.out
               clear HA
               simp only [laws_FnExactBoxMeet.j2] at H
               by_cases c215 : x115_164 = true
               ·subst c215
                have H1 : (some false) = some r := by rw [if_pos rfl] at H; exact H
                clear H
                have H := H1
                clear H1
                exact absurd (hr.out.trans (Option.some.inj H).symm) (by decide)
               ·replace c215 := Bool.eq_false_iff.mpr c215
                subst c215
                have H1 : ((laws_heldBox.f kj164 t253 1).bind fun t267 => (if t267 < 0 then (some false) else (if t267 = t252 then (some true) else (some false)))) = some r := by rw [if_neg (show ¬ (false = true) by decide)] at H; exact H
                clear H
                have H := H1
                clear H1
                replace H := Option.bind_eq_some_iff.mp H
                obtain ⟨t267, A2160, H⟩ := H
                replace H : (if t267 < 0 then (some false) else (if t267 = t252 then (some true) else (some false))) = some r := H
                have A216 := A_ A2160
                clear A2160
                by_cases c217 : t267 < 0
                ·rw [if_pos c217] at H
                 have c217b0 : decide (t267 < 0) = true := decide_eq_true c217
                 clear c217
                 exact absurd (hr.out.trans (Option.some.inj H).symm) (by decide)
                ·rw [if_neg c217] at H
                 have c217b0 : decide (t267 < 0) = false := decide_eq_false c217
                 clear c217
                 by_cases c218 : t267 = t252
                 ·rw [if_pos c218] at H
                  have c218b0 : (t267 == t252) = true := beq_iff_eq.mpr c218
                  have c218b1 : (t267 != t252) = false := bne_eq_false_iff_eq.mpr c218
                  clear c218
                  clear hr
                  obtain rfl := Option.some.inj H
                  have hnb219 := NB237_210.out
                  have hnc219 := NB210_237.out
                  have hnb220 := NB237_211.out
                  have hnc220 := NB211_237.out
                  have hnb221 := NB237_224.out
                  have hnc221 := NB224_237.out
                  have hnb222 := NB237_228.out
                  have hnc222 := NB228_237.out
                  have hnb223 := NB237_232.out
                  have hnc223 := NB232_237.out
                  have hnb224 := NB237_265.out
                  have hnc224 := NB265_237.out
                  have hcz225_0 : wc.cell? ⟨gb237, 0, none⟩ = some (.slice Ao66 t253.length co66) := (blk_cell BK237.out 0).trans rfl
                  have hfz225_0 := blk_frozen BK237.out 0
                  go_wp2_with (first | ((with_reducible refine gate_callee (f := 28) rfl ?_); refine goesL_ (some 118) rfl rfl Try.func28 (by kernel_rfl) rfl #[.agg #[.slice Ao66 t253.length co66], .int .i64 1] rfl (by (try simp only [List.map_toArray, List.map_cons, List.map_nil]); first | done | rfl) ?_; (with_reducible refine (laws_heldBox.calls kj164 _ _ t253 1 t267 _ ?side1 ?side2 A216.out).mono ?_); (case side1 => repeat (first | exact (Kd.R_reads' HO_238000.out).2.2 | (with_reducible refine Kd.C_alloc ?_ _) | (with_reducible refine Kd.C_drewN ?_ _) | (with_reducible refine Kd.C_drew ?_))); (case side2 => exact (Kd.R_reads' HO_238000.out).2.1); rintro e w226 ⟨rfl, hb⟩; refine ⟨_, rfl, ?_⟩; have n0_ := A_ (Kd.R_below (rz_ HO_225000.out) hb); have n1_ := A_ (Kd.R_below (rz_ HO_229000.out) hb); have n2_ := A_ (Kd.R_below (rz_ HO_233000.out) hb); have n3_ := A_ (Kd.R_below (rz_ HO_238000.out) hb); have n4_ := A_ (Kd.R_below (rz_ HO_266000.out) hb); have n5_ := A_ (blk_below (bz_ BK210.out) hb); have n6_ := A_ (blk_below (bz_ BK211.out) hb); have n7_ := A_ (blk_below (bz_ BK224.out) hb); have n8_ := A_ (blk_below (bz_ BK228.out) hb); have n9_ := A_ (blk_below (bz_ BK232.out) hb); have n10_ := A_ (blk_below (bz_ BK237.out) hb); have n11_ := A_ (blk_below (bz_ BK265.out) hb); have n12_ := A_ (below_step (by repeat (first | (with_reducible first | exact HB.out | apply b1_ | apply b2_ | apply b3_ | apply c_ GE210 | apply c_ GE211 | apply c_ GE224 | apply c_ GE228 | apply c_ GE232 | apply c_ GE237 | apply c_ GE265) | exact HB.out)) hb); clear HO_225000 HO_229000 HO_233000 HO_238000 HO_266000 BK210 BK211 BK224 BK228 BK232 BK237 BK265 HB; have HO_225000 := n0_; have HO_229000 := n1_; have HO_233000 := n2_; have HO_238000 := n3_; have HO_266000 := n4_; have BK210 := n5_; have BK211 := n6_; have BK224 := n7_; have BK228 := n8_; have BK232 := n9_; have BK237 := n10_; have BK265 := n11_; have HB := n12_; clear n0_ n1_ n2_ n3_ n4_ n5_ n6_ n7_ n8_ n9_ n10_ n11_ n12_; (try clear hb); (try clear hb2); (try clear hk); (try clear hi)))
                  go_ret
                  exact ⟨by first | rfl | (simp [errW_none, errW_some] <;> rfl) | (simp [*, errW_none, errW_some] <;> rfl), by repeat (first | (with_reducible first | exact HB.out | apply b1_ | apply b2_ | apply b3_ | apply c_ GE210 | apply c_ GE211 | apply c_ GE224 | apply c_ GE228 | apply c_ GE232 | apply c_ GE237 | apply c_ GE265) | exact HB.out)⟩
                 ·rw [if_neg c218] at H
                  have c218b0 : (t267 == t252) = false := beq_eq_false_iff_ne.mpr c218
                  have c218b1 : (t267 != t252) = true := bne_iff_ne.mpr c218
                  exact absurd (hr.out.trans (Option.some.inj H).symm) (by decide)
            ·rw [if_neg c161] at H
             have c161b0 : (t254 == t252) = false := beq_eq_false_iff_ne.mpr c161
             have c161b1 : (t254 != t252) = true := bne_iff_ne.mpr c161
             exact absurd (hr.out.trans (Option.some.inj H).symm) (by decide)
       ·replace c105 := Bool.eq_false_iff.mpr c105
        subst c105
        have H1 : (some false) = some r := by rw [if_neg (show ¬ (false = true) by decide)] at H; exact H
        clear H
        have H := H1
        clear H1
        exact absurd (hr.out.trans (Option.some.inj H).symm) (by decide)
      ·replace c102 := Bool.eq_false_iff.mpr c102
       subst c102
       have H1 : (some false) = some r := by rw [if_neg (show ¬ (false = true) by decide)] at H; exact H
       clear H
       have H := H1
       clear H1
       exact absurd (hr.out.trans (Option.some.inj H).symm) (by decide)

/-- The one plain statement of laws_FnExactBoxMeet. -/
def laws_FnExactBoxMeet.Pure : Prop := ∀ (a0 : Int) (l1_0 : List (S87)) (l2_0 : List (S87)), (Lit.int .i64 a0).wf = true → l1_0.length ≤ maxLen → l1_0.length * 16 ≤ 140737488351232 → (∀ x ∈ l1_0, (Lit.int .i64 x.f0).wf = true ∧ (Lit.int .i64 x.f1).wf = true) → l2_0.length ≤ maxLen → l2_0.length * 16 ≤ 140737488351232 → (∀ x ∈ l2_0, (Lit.int .i64 x.f0).wf = true ∧ (Lit.int .i64 x.f1).wf = true) → ∃ k, laws_FnExactBoxMeet.f k a0 l1_0 l2_0 = some true
theorem laws_FnExactBoxMeet.walk (P : laws_FnExactBoxMeet.Pure) (a0 : Int) (A1_0 : Option Addr) (c1_0 : Nat) (l1_0 : List S87) (A2_0 : Option Addr) (c2_0 : Nat) (l2_0 : List S87) (w : World) (w0 : (Lit.int .i64 a0).wf = true) (hr1_0 : Kd.C k87 w A1_0 l1_0.length l1_0) (hc1_0 : l1_0.length ≤ c1_0) (hm1_0 : l1_0.length ≤ maxLen) (y1_0 : l1_0.length * 16 ≤ 140737488351232) (hw1_0 : ∀ x ∈ l1_0, (Lit.int .i64 x.f0).wf = true ∧ (Lit.int .i64 x.f1).wf = true) (hr2_0 : Kd.C k87 w A2_0 l2_0.length l2_0) (hc2_0 : l2_0.length ≤ c2_0) (hm2_0 : l2_0.length ≤ maxLen) (y2_0 : l2_0.length * 16 ≤ 140737488351232) (hw2_0 : ∀ x ∈ l2_0, (Lit.int .i64 x.f0).wf = true ∧ (Lit.int .i64 x.f1).wf = true) :
  Calls Try.prog 7 #[.int .i64 a0, .agg #[.slice A1_0 l1_0.length c1_0], .agg #[.slice A2_0 l2_0.length c2_0]] w fun e w' => e = .returned (.bool true) ∧ Below w.heap.size w w' := by
 obtain ⟨k, h⟩ := P a0 l1_0 l2_0 w0 hm1_0 y1_0 hw1_0 hm2_0 y2_0 hw2_0
 refine (laws_FnExactBoxMeet.calls k a0 A1_0 c1_0 l1_0 A2_0 c2_0 l2_0 true w hr1_0 hc1_0 hr2_0 hc2_0 h (A_ rfl)).mono ?_
 rintro e w' ⟨rfl, hd⟩
 exact ⟨rfl, hd⟩

end Go.Proofs.Ytlnihglcneaonaa.QFnExactBoxMeet
