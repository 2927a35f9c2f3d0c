/- The machine side of one law: each function and the law itself walked once, written by a program of this session (wip/xprint.py) that runs the printer of the kit.
   Conditions: none. -/
import Derived.Test.YtmdeolonjmjmgaaDoorQFnExactDecFracx0
import Derived.Test.YtmdeolonjmjmgaaDoorQFnExactDecFracx7
namespace Go.Proofs.YtmdeolonjmjmgaaDoor.QFnExactDecFrac
open Go.RowKit Go.Proofs.YtmdeolonjmjmgaaDoorW.PrintWords Go.Proofs.YtmdeolonjmjmgaaDoorW.PrintLast Go.Proofs.YtmdeolonjmjmgaaDoorW.PrintMore Go.Proofs.YtmdeolonjmjmgaaDoor.MX
attribute [local go_sem] Go.Instr.field Go.asAgg Go.Proofs.YtmdeolonjmjmgaaDoor.MS.isSome_setCell Go.Proofs.YtmdeolonjmjmgaaDoor.MT.gtr Go.Proofs.YtmdeolonjmjmgaaDoor.MT.td
attribute [local go_sem] max2_int min2_int max_two min_two max_three min_three max_four min_four   -- for this text's walks alone
set_option linter.unusedVariables false
set_option linter.unusedSimpArgs false

/-! ### impl_natAdd: function 44 -/
theorem R_copy {P : Program} {ops : Array Oper} {rest : List Oper} {o : Oper} {a : Act} {Q : Exit → Act → World → Prop} {k : IntKind} {e : Nat} {W : World} {base : Nat} {ok : Nat → Prop} {v : Value} {xs ys : List Int} {A : Option Addr} {c : Nat}
  (hgd : o.guard = none) (d s : Operand) (dT sT : TypeId) (ho : o.op = .call { callee := .builtin .copy, args := #[d, s], argTypes := #[dT, sT] }) (hu : P.underlying dT = some (.slice e)) (hsz : (P.info? e).map (·.size) = some 1)
  (hdv : a.eval d = v) (hsv : a.eval s = .slice A ys.length c) (HO : (Kd.int k).R e W base ok v xs) (HS : (Kd.int k).C W A ys.length ys) (hle : ys.length ≤ xs.length) (hpos : 0 < xs.length)
  {B : Nat} {w0 : World} (HB : Below B w0 W) (hB : B ≤ base)
  (h : ∀ w', (Kd.int k).R e w' base ok v (ys ++ xs.drop ys.length) → Below B w0 w' → wpList P ops Q rest (a.put o.dst (goInt ys.length)) w') : wpList P ops Q (o :: rest) a W := by
 have own := Kd.own_of_R (h1 := fun _ => rfl) HO
 have hok := HO.1
 have rds := Kd.reads_of_C (d := (0 : Int)) (h1 := fun _ => rfl) HS
 obtain ⟨hl, hv | ⟨g, cap, cur, hv, hbg, hg, hn, hcap, hsize, htake⟩⟩ := own
 ·omega
 ·subst hv
  have hcl : cur.toList.length = cap := by simp [hsize]
  have hmin : ys.length = Nat.min ys.length xs.length := (Nat.min_eq_left hle).symm
  refine wpList_copy_splice hgd d s dT sT ho e hu hsz (some ⟨g, 0, none⟩) A xs.length cap ys.length c hdv hsv g 0 cur.toList e (by simpa using hg) (encs (Value.int k) ys) (by rw [encs_length]; exact hmin) ?_ ?_ ?_ B w0 HB (by omega) ?_
  ·intro hp
   rw [encs_length] at hp
   obtain ⟨ad, hA, hc⟩ := rds.2.2 hp
   refine ⟨rfl, ad, hA, fun j u hj => ?_⟩
   have hj' : j < ys.length := by
    have := (List.getElem?_eq_some_iff.1 hj).1; rwa [encs_length] at this
   rw [encs_get (d := (0 : Int)) ys j hj'] at hj
   rw [← Option.some.inj hj]; exact hc j hj'
  ·rw [encs_length, hcl]; omega
  ·intro u hu'
   simp only [encs, List.mem_map] at hu'
   obtain ⟨x, _, rfl⟩ := hu'; rfl
  ·intro w' hg' hb'
   rw [encs_length]
   refine h w' (Kd.R_of_own (h1 := fun _ => rfl) ⟨by simp [encs_length], Or.inr ⟨g, cap, (splice cur.toList 0 (encs (Value.int k) ys)).toArray, ?_, hbg, hg'.out, ?_, hcap, ?_, ?_⟩⟩ hok) hb'
   ·congr 1; simp; omega
   ·simp; omega
   ·simp [splice, encs_length]; omega
   ·rw [Nat.mul_one] at htake ⊢
    have e1 : (ys ++ xs.drop ys.length).length = xs.length := by simp; omega
    rw [e1, encs_append]
    have e2 : encs (Value.int k) (xs.drop ys.length) = (encs (Value.int k) xs).drop ys.length := by simp [encs]
    rw [e2, ← htake]
    simp only [splice, List.take_zero, List.nil_append, encs_length, Nat.zero_add, List.toList_toArray]
    rw [List.take_append, List.take_of_length_le (by rw [encs_length]; omega), encs_length, List.drop_take]
mutual
def impl_natAdd.l0 : Nat → List Int → List Int → Int → Int → Option (List Int)
 | 0, _, _, _, _ => none
 | k + 1, x5, x19, x20, x21 => if x21 < x20 then (if 0 ≤ x21 then (if x21 < (x19.length : Int) then (if x21 < (x5.length : Int) then (impl_natAdd.l0 k (x5.set (x21 : Int).toNat (wrap64 ((rd x5 x21) + (rd x19 x21)))) x19 x20 (wrap64 (x21 + 1))) else (none)) else (none)) else (none)) else (impl_natAdd.l1 k x5 (wrap64 ((x5.length : Int) - 1)) 0)
def impl_natAdd.l1 : Nat → List Int → Int → Int → Option (List Int)
 | 0, _, _, _ => none
 | k + 1, x5, x36, x37 => if x37 < x36 then (if 0 ≤ (wrap64 (x37 + 1)) then (if (wrap64 (x37 + 1)) < (x5.length : Int) then (if 0 ≤ x37 then (if x37 < (x5.length : Int) then ((some (x5.set ((wrap64 (x37 + 1)) : Int).toNat (wrap64 ((rd x5 (wrap64 (x37 + 1))) + ((rd x5 x37) / 65536))) : List Int)).bind fun y344 => (impl_natAdd.l1 k (y344.set (x37 : Int).toNat (Go.bits .and .i64 (rd y344 x37) 65535)) x36 (wrap64 (x37 + 1)))) else (none)) else (none)) else (none)) else (none)) else ((impl_trim.f k x5).bind fun t347 => (some t347))
end
def impl_natAdd.g (k : Nat) (l0 l1 z : List Int) : Option (List Int) := if l0.length < z.length then impl_natAdd.l0 k (l0 ++ z.drop l0.length) l1 (l1.length : Int) 0 else none
def impl_natAdd.f (k : Nat) (l0 : List Int) (l1 : List Int) : Option (List Int) := if 0 ≤ (wrap64 ((mx (l0.length : Int) (l1.length : Int)) + 1)) then (if (wrap64 ((mx (l0.length : Int) (l1.length : Int)) + 1) : Int).toNat ≤ 35184372088832 then (impl_natAdd.g k l0 l1 (List.replicate (wrap64 ((mx (l0.length : Int) (l1.length : Int)) + 1) : Int).toNat 0)) else (none)) else (none)
def impl_natAdd.T11 : Bool × List (List Nat × List Nat) := (true, [([], []), ([], []), ([1], [1]), ([0, 2], [0, 2]), ([3], [3]), ([], []), ([], []), ([5, 6], [5, 6]), ([7], [7]), ([8], [8]), ([4, 9], [4, 9]), ([0, 2, 0, 1, 2, 3, 4, 5, 6, 7, 8, 9, 10], [0, 2]), ([11, 10, 0, 1, 2, 3, 4, 5, 6, 7, 8, 9, 10], [10, 11])])
def impl_natAdd.B11 : List Nat := [0, 0, 2, 7, 15, 0, 0, 96, 224, 480, 1023, 2047, 4095]
theorem impl_natAdd.tab11 : rtab .any (opsOf Tryd.f44 11) = impl_natAdd.T11 := by kernel_rfl
theorem impl_natAdd.bits11 : waitsOk impl_natAdd.T11.2 impl_natAdd.B11 = true := by kernel_rfl
set_option maxHeartbeats 8000000 in
set_option maxRecDepth 100000 in
theorem impl_natAdd.calls (k : Nat) (A0 : Option Addr) (c0 : Nat) (l0 : List Int) (A1 : Option Addr) (c1 : Nat) (l1 : List Int) (r : List Int) (w : World) (hr0 : Kd.C (Kd.int .i64) w A0 l0.length l0) (hc0 : l0.length ≤ c0) (hr1 : Kd.C (Kd.int .i64) w A1 l1.length l1) (hc1 : l1.length ≤ c1) (h : impl_natAdd.f k l0 l1 = some r) :
  Calls Tryd.prog 44 #[.slice A0 l0.length c0, .slice A1 l1.length c1] w fun e w' => ∃ v0_ : Value, e = .returned (v0_) ∧ Kd.V (Kd.int .i64) 3 w' w.heap.size (fun k_ => (w.heap.size ≤ k_)) v0_ r ∧ Below w.heap.size w w' := by
 have HR0 := A_ hr0
 have HC0 := A_ hc0
 clear hr0 hc0
 have HR1 := A_ hr1
 have HC1 := A_ hc1
 clear hr1 hc1
 have HB := A_ (Below.refl w.heap.size w)
 have H : (if 0 ≤ (wrap64 ((mx (l0.length : Int) (l1.length : Int)) + 1)) then (if (wrap64 ((mx (l0.length : Int) (l1.length : Int)) + 1) : Int).toNat ≤ 35184372088832 then (impl_natAdd.g k l0 l1 (List.replicate (wrap64 ((mx (l0.length : Int) (l1.length : Int)) + 1) : Int).toNat 0)) else (none)) else (none)) = some r := h
 clear h
 obtain ⟨ji3, hji3⟩ : ∃ j_ : Int, (mx (l0.length : Int) (l1.length : Int)) = j_ := ⟨_, rfl⟩
 replace H : (if 0 ≤ (wrap64 ((ji3) + 1)) then (if (wrap64 ((ji3) + 1) : Int).toNat ≤ 35184372088832 then (impl_natAdd.g k l0 l1 (List.replicate (wrap64 ((ji3) + 1) : Int).toNat 0)) else (none)) else (none)) = some r := by first | (rw [hji3] at H; exact H) | (simp only [hji3] at H ⊢; exact H)
 (try (have hji3l : 0 ≤ ji3 := by (rw [← hji3]; unfold mx; (repeat' split) <;> omega)))
 (try (have hji3m : 0 ≤ ji3 := by omega))
 have hji3_ : (if (l0.length : Int) < (l1.length : Int) then (l1.length : Int) else (l0.length : Int)) = ji3 := hji3
 have hji3n_ : (if l0.length < l1.length then (l1.length : Int) else (l0.length : Int)) = ji3 := by rw [← hji3_]; (repeat' split) <;> omega
 obtain ⟨ji4, hji4⟩ : ∃ j_ : Int, (wrap64 ((ji3) + 1)) = j_ := ⟨_, rfl⟩
 replace H : (if 0 ≤ (ji4) then (if (ji4 : Int).toNat ≤ 35184372088832 then (impl_natAdd.g k l0 l1 (List.replicate (ji4 : Int).toNat 0)) else (none)) else (none)) = some r := by first | (rw [hji4] at H; exact H) | (simp only [hji4] at H ⊢; exact H)
 have hji4w : (IntKind.i64.wrap ((ji3) + 1)) = ji4 := (i64_w _).trans hji4
 by_cases c5 : 0 ≤ (ji4)
 ·rw [if_pos c5] at H
  have c5b0 := eq_true c5
  have c5b1 : decide (0 ≤ (ji4)) = true := decide_eq_true c5
  clear c5
  by_cases c6 : (ji4 : Int).toNat ≤ 35184372088832
  ·rw [if_pos c6] at H
   have c6b0 := eq_true c6
   have c6b1 : decide ((ji4 : Int).toNat ≤ 35184372088832) = true := decide_eq_true c6
   clear c6
   obtain ⟨y336, hy336⟩ : ∃ y_ : List Int, y_ = (List.replicate (ji4 : Int).toNat 0) := ⟨_, rfl⟩
   replace H : (impl_natAdd.g k l0 l1 y336) = some r := by first | (rw [hy336]; with_reducible exact H) | (have H2_ := (Option.bind_some _ _).symm.trans H; rw [hy336]; with_reducible exact H2_) | (have H2_ := (Option.bind_some _ _).symm.trans H; with_reducible exact H2_) | with_reducible exact H | (rw [hy336]; exact H) | exact H
   have Ny336 := A_ hy336
   clear hy336
   have cz_ : l0.length < y336.length := by
    rcases Nat.lt_or_ge l0.length y336.length with h_ | h_
    ·exact h_
    ·unfold impl_natAdd.g at H
     rw [if_neg (by omega)] at H
     cases H
   replace H : impl_natAdd.l0 k (l0 ++ y336.drop l0.length) l1 (l1.length : Int) 0 = some r := by
    unfold impl_natAdd.g at H
    rw [if_pos cz_] at H
    exact H
   have CZ_ := A_ cz_
   clear cz_
   obtain ⟨yc_, hyc_⟩ : ∃ y_ : List Int, y_ = l0 ++ y336.drop l0.length := ⟨_, rfl⟩
   rw [← hyc_] at H
   have HYC_ := A_ hyc_
   clear hyc_
   have H' := A_ H
   clear H
   go_enter Tryd.func44, Tryd.ntmps44
   go_wp2_with (first | ((with_reducible refine gate_dst (N := 15) rfl ?_); refine Kd.R_make (Kd.int .i64) _ 3 rfl (N := 15) rfl 23 _ _ rfl ji4 rfl rfl Tryd.underlying23 (.int .i64 0) 8 info3 rfl (by decide) (by omega) 0 (ok := fun _ => True) (okp := fun _ => True) rfl (fun _ hk => hk) trivial (of_decide_eq_true as_) (Nat.le_trans (Nat.mul_le_mul_right _ (of_decide_eq_true as_ : ji4.toNat ≤ 35184372088832)) (by omega)) (Below.refl _ _) (Nat.le_refl _) ?_; intro v337 w7 ho8 hb hg_ hnew_; clear hg_ hnew_; (first | rw [← Ny336.out] at ho8 | (simp only [Int.reduceToNat] at ho8; rw [← Ny336.out] at ho8)); have n0_ := A_ (Kd.R_lower (Kd.R_newM (M := fun k_ => (w.heap.size ≤ k_)) ho8 (below_size hB_) (fun k_ h_ => h_)) (below_size hB_)); have n1_ := A_ (below_step hB_ hb); clear HB; have HO338 := n0_; have HB := n1_; clear n0_ n1_; clear hb ho8) | ((with_reducible refine gate_builtin (b := .copy) rfl ?_); refine R_copy (k := .i64) (e := 3) (base := w.heap.size) (v := v337) (xs := y336) (ys := l0) (A := A0) (c := c0) (B := w.heap.size) (w0 := w) rfl (.tmp 16) (.tmp 17) 23 23 rfl Tryd.underlying23 ?z1 rfl rfl HO338.out ?z2 (Nat.le_of_lt CZ_.out) (Nat.lt_of_le_of_lt (Nat.zero_le _) CZ_.out) HB.out (Nat.le_refl _) ?_; (case z1 => kernel_rfl); (case z2 => exact Kd.C_below HR0.out HB.out); intro wc_ ho_ hb_; rw [← HYC_.out] at ho_; have n0_ := A_ ho_; have n1_ := A_ hb_; clear HO338 HB; have HO338 := n0_; have HB := n1_; clear n0_ n1_; clear hb_ ho_))
   go_loopg [21] k (fun kq v21 w' => ∃ (x5_1 : List Int) (x21_1 : Int), v21 = .int .i64 x21_1 ∧ Aside0 (impl_natAdd.l0 kq x5_1 l1 (l1.length : Int) x21_1 = some r) ∧ Aside0 (kq ≤ k) ∧ Aside0 (Kd.R (Kd.int .i64) 3 w' w.heap.size (fun k_ => (w.heap.size ≤ k_)) v337 x5_1) ∧ Aside0 (Below w.heap.size w w'))
   case atStart => exact ⟨(yc_), (0), (by first | rfl | (simp; done) | (simp [*]; done)), H', ⟨Nat.le_refl _⟩, ⟨by (with_reducible repeat (first | apply Kd.R_alloc | apply Kd.R_drewN | apply Kd.R_drew)); exact Kd.R_mono HO338.out (fun _ hk => hk.1)⟩, ⟨hB_⟩⟩
   case round =>
    clear H'
    (try clear c1); (try clear p2); (try clear c4); (try clear c5); (try clear c5b0); (try clear c5b1); (try clear c6); (try clear c6b0); (try clear c6b1); (try clear p6)
    obtain ⟨x5_1, x21_1, rfl, HA, HK1, HO_5, HB⟩ := hrel
    cases gk with
    | zero => exact absurd HA.out (by simp [impl_natAdd.l0])
    | succ k1 =>
     have H := HA.out
     clear HA
     simp only [impl_natAdd.l0] at H
     by_cases c9 : x21_1 < (l1.length : Int)
     ·rw [if_pos c9] at H
      have c9b0 : decide (x21_1 < (l1.length : Int)) = true := decide_eq_true c9
      clear c9
      by_cases c10 : 0 ≤ x21_1
      ·rw [if_pos c10] at H
       have c10b0 : decide (0 ≤ x21_1) = true := decide_eq_true c10
       clear c10
       by_cases c11 : x21_1 < (l1.length : Int)
       ·rw [if_pos c11] at H
        have c11b0 : decide (x21_1 < (l1.length : Int)) = true := decide_eq_true c11
        clear c11
        by_cases c12 : x21_1 < (x5_1.length : Int)
        ·rw [if_pos c12] at H
         have c12b0 : decide (x21_1 < (x5_1.length : Int)) = true := decide_eq_true c12
         clear c12
         obtain ⟨y341, hy341⟩ : ∃ y_ : List Int, y_ = (x5_1.set (x21_1 : Int).toNat (wrap64 ((rd x5_1 x21_1) + (rd l1 x21_1)))) := ⟨_, rfl⟩
         replace H : (impl_natAdd.l0 k1 y341 l1 (l1.length : Int) (wrap64 (x21_1 + 1))) = some r := by first | (rw [hy341]; with_reducible exact H) | (have H2_ := (Option.bind_some _ _).symm.trans H; rw [hy341]; with_reducible exact H2_) | (have H2_ := (Option.bind_some _ _).symm.trans H; with_reducible exact H2_) | with_reducible exact H | (rw [hy341]; exact H) | exact H
         have Ny341 := A_ hy341
         clear hy341
         have H' := A_ H
         clear H
         have p339 : 0 ≤ (x21_1 : Int) := of_decide_eq_true as_
         have q339 : x21_1 < (l1.length : Int) := of_decide_eq_true as_
         obtain ⟨ad339, e339, hx339_0⟩ := Kd.at_int HR1.out x21_1 p339 q339
         cases e339
         replace hx339_0 := (HB.out.cell (World.block_lt_of_cell? w _ hx339_0)).trans hx339_0
         replace p339 := eq_true p339
         replace q339 := eq_true q339
         obtain ⟨Ao14, co14, eo14⟩ := Kd.R_slice HO_5.out
         subst eo14
         have p340 : 0 ≤ (x21_1 : Int) := of_decide_eq_true as_
         have q340 : x21_1 < (x5_1.length : Int) := of_decide_eq_true as_
         obtain ⟨ad340, e340, hx340_0⟩ := Kd.at_int (Kd.R_reads' HO_5.out).2.2 x21_1 p340 q340
         cases e340
         replace p340 := eq_true p340
         replace q340 := eq_true q340
         have p13 : 0 ≤ (x21_1 : Int) := of_decide_eq_true as_
         have q13 : (x21_1 : Int) < ((x5_1.length : Int) : Int) := of_decide_eq_true as_
         obtain ⟨go13, co13, eo13, gb13, gl13, cl13, HG13⟩ := Kd.R_form HO_5.out (by omega)
         (first | cases eo13 | (injection eo13 with ea_ en_ ec_; (first | subst ea_ | (injection ea_ with ea_; subst ea_)); subst ec_; clear en_))
         have GB13 := A_ gb13
         have GG13 := A_ HG13
         clear gb13 gl13 HG13
         (first | simp only [add_plain] at hx340_0 | skip)
         obtain ⟨hx13_0, hf13_0⟩ := Kd.R_celln 0 HO_5.out (x21_1 : Int) p13 q13
         replace p13 := eq_true p13
         replace q13 := eq_true q13
         have HP15 := Kd.R_putg HO_5.out (x21_1 : Int) (wrap64 ((rd x5_1 x21_1) + (rd l1 x21_1)))
         go_wp2_with (first | ((with_reducible refine gate_store (t := 3) (p := 32) rfl ?_); refine store_event (t := 3) (p := 32) (v := ?vo_w16) (w1 := (wr.setCell ⟨go13, (x21_1 : Int).toNat, none⟩ (.int .i64 (wrap64 ((rd x5_1 x21_1) + (rd l1 x21_1)))))) ?hg ?ho ?hn ?hr ?_; (case ho => rfl); (case hg => rfl); (case hn => rfl); (case hr => first | (go_simp; done) | (go_simp; rfl)); intro w16 hw; have hg : wr.grownBy w16 (some go13) := (by rw [hw]; exact HP15.2); have hp_ : Kd.R (Kd.int .i64) 3 w16 w.heap.size (fun k_ => (w.heap.size ≤ k_)) (.slice (some ⟨go13, 0, none⟩) x5_1.length co14) y341 := (by rw [hw, Ny341.out]; first | exact HP15.1 | exact Kd.R_mono HP15.1 (fun _ hk => (by first | (refine ⟨?_, ?_, ?_, ?_⟩ <;> first | exact hk.1 | exact hk.2.1 | exact hk.2.2.1 | exact hk.2.2.2 | exact hk.1.1 | exact hk.1.2) | (refine ⟨?_, ?_, ?_⟩ <;> first | exact hk.1 | exact hk.2.1 | exact hk.2.2 | exact hk.1.1 | exact hk.1.2)))); clear HP15; have n0_ := A_ (hp_); have n1_ := A_ ((by rw [hw]; exact below_set (HB.out) GB13.out : Below w.heap.size w w16)); clear HO_5 HB; have HO_5 := n0_; have HB := n1_; clear n0_ n1_; clear hg hw hp_))
         go_roundg k1
         case measure => have := HK1.out; omega
         case rel => exact ⟨(y341), (wrap64 (x21_1 + 1)), (by first | rfl | (simp; done) | (simp [*]; done)), H', ⟨by have := HK1.out; omega⟩, ⟨by (with_reducible repeat (first | apply Kd.R_alloc | apply Kd.R_drewN | apply Kd.R_drew)); exact HO_5.out⟩, ⟨hB_⟩⟩
        ·rw [if_neg c12] at H
         exact absurd H (by simp)
       ·rw [if_neg c11] at H
        exact absurd H (by simp)
      ·rw [if_neg c10] at H
       exact absurd H (by simp)
     ·rw [if_neg c9] at H
      have c9b0 : decide (x21_1 < (l1.length : Int)) = false := decide_eq_false c9
      clear c9
      have H' := A_ H
      clear H
      obtain ⟨Ao17, co17, eo17⟩ := Kd.R_slice HO_5.out
      subst eo17
      go_wp2
      go_loopg [37] k1 (fun kq v37 w' => ∃ (x5_2 : List Int) (x37_2 : Int), v37 = .int .i64 x37_2 ∧ Aside0 (impl_natAdd.l1 kq x5_2 (wrap64 ((x5_1.length : Int) - 1)) x37_2 = some r) ∧ Aside0 (kq ≤ k1) ∧ Aside0 (Kd.R (Kd.int .i64) 3 w' w.heap.size (fun k_ => (w.heap.size ≤ k_)) (.slice Ao17 x5_1.length co17) x5_2) ∧ Aside0 (Below w.heap.size w w'))
      case atStart => exact ⟨(x5_1), (0), (by first | rfl | (simp; done) | (simp [*]; done)), H', ⟨Nat.le_refl _⟩, ⟨by (with_reducible repeat (first | apply Kd.R_alloc | apply Kd.R_drewN | apply Kd.R_drew)); exact HO_5.out⟩, ⟨hB_⟩⟩
      case round =>
       clear H'
       (try clear c1); (try clear p1); (try clear q1); (try clear hx1); (try clear p2); (try clear p3); (try clear q3); (try clear hx3); (try clear c4); (try clear c5); (try clear c5b0); (try clear c5b1); (try clear c6); (try clear c6b0); (try clear c6b1); (try clear p6); (try clear c9); (try clear c9b0); (try clear c10); (try clear c10b0); (try clear c11); (try clear c11b0); (try clear c12); (try clear c12b0); (try clear p13); (try clear q13); (try clear hx13); (try clear hf13); (try clear hx13_0); (try clear hx339_0); (try clear hx340_0); (try clear p13); (try clear p2); (try clear p339); (try clear p340); (try clear p6); (try clear q13); (try clear q339); (try clear q340)
       obtain ⟨x5_2, x37_2, rfl, HA, HK2, HO_5, HB⟩ := hrel
       have hl5_2 := (Kd.R_reads' HO_5.out).1
       rw [hl5_2] at HO_5
       (try simp only [hl5_2])
       cases gk with
       | zero => exact absurd HA.out (by simp [impl_natAdd.l1])
       | succ k2 =>
        have H := HA.out
        clear HA
        simp only [impl_natAdd.l1] at H
        by_cases c18 : x37_2 < (wrap64 ((x5_1.length : Int) - 1))
        ·rw [if_pos c18] at H
         have c18b0 : decide (x37_2 < (wrap64 ((x5_1.length : Int) - 1))) = true := decide_eq_true c18
         (try (have c18b0_ := c18b0; simp only [hl5_2] at c18b0_))
         clear c18
         obtain ⟨ji19, hji19⟩ : ∃ j_ : Int, (wrap64 (x37_2 + 1)) = j_ := ⟨_, rfl⟩
         replace H : (if 0 ≤ (ji19) then (if (ji19) < (x5_2.length : Int) then (if 0 ≤ x37_2 then (if x37_2 < (x5_2.length : Int) then ((some (x5_2.set ((ji19) : Int).toNat (wrap64 ((rd x5_2 (ji19)) + ((rd x5_2 x37_2) / 65536))) : List Int)).bind fun y344 => (impl_natAdd.l1 k2 (y344.set (x37_2 : Int).toNat (Go.bits .and .i64 (rd y344 x37_2) 65535)) (wrap64 ((x5_1.length : Int) - 1)) ji19)) else (none)) else (none)) else (none)) else (none)) = some r := by first | (rw [hji19] at H; exact H) | (simp only [hji19] at H ⊢; exact H)
         have hji19w : (IntKind.i64.wrap (x37_2 + 1)) = ji19 := (i64_w _).trans hji19
         by_cases c20 : 0 ≤ (ji19)
         ·rw [if_pos c20] at H
          have c20b0 : decide (0 ≤ (ji19)) = true := decide_eq_true c20
          clear c20
          by_cases c21 : (ji19) < (x5_2.length : Int)
          ·rw [if_pos c21] at H
           have c21b0 : decide ((ji19) < (x5_2.length : Int)) = true := decide_eq_true c21
           (try (have c21b0_ := c21b0; simp only [hl5_2] at c21b0_))
           clear c21
           by_cases c22 : 0 ≤ x37_2
           ·rw [if_pos c22] at H
            have c22b0 : decide (0 ≤ x37_2) = true := decide_eq_true c22
            clear c22
            by_cases c23 : x37_2 < (x5_2.length : Int)
            ·rw [if_pos c23] at H
             have c23b0 : decide (x37_2 < (x5_2.length : Int)) = true := decide_eq_true c23
             (try (have c23b0_ := c23b0; simp only [hl5_2] at c23b0_))
             clear c23
             obtain ⟨y344, hy344⟩ : ∃ y_ : List Int, y_ = (x5_2.set ((ji19) : Int).toNat (wrap64 ((rd x5_2 (ji19)) + ((rd x5_2 x37_2) / 65536)))) := ⟨_, rfl⟩
             replace H : (impl_natAdd.l1 k2 (y344.set (x37_2 : Int).toNat (Go.bits .and .i64 (rd y344 x37_2) 65535)) (wrap64 ((x5_1.length : Int) - 1)) ji19) = some r := by first | (rw [hy344]; with_reducible exact H) | (have H2_ := (Option.bind_some _ _).symm.trans H; rw [hy344]; with_reducible exact H2_) | (have H2_ := (Option.bind_some _ _).symm.trans H; with_reducible exact H2_) | with_reducible exact H | (rw [hy344]; exact H) | exact H
             have Ny344 := A_ hy344
             clear hy344
             obtain ⟨y346, hy346⟩ : ∃ y_ : List Int, y_ = (y344.set (x37_2 : Int).toNat (Go.bits .and .i64 (rd y344 x37_2) 65535)) := ⟨_, rfl⟩
             replace H : (impl_natAdd.l1 k2 y346 (wrap64 ((x5_1.length : Int) - 1)) ji19) = some r := by first | (rw [hy346]; with_reducible exact H) | (have H2_ := (Option.bind_some _ _).symm.trans H; rw [hy346]; with_reducible exact H2_) | (have H2_ := (Option.bind_some _ _).symm.trans H; with_reducible exact H2_) | with_reducible exact H | (rw [hy346]; exact H) | exact H
             have Ny346 := A_ hy346
             clear hy346
             have H' := A_ H
             clear H
             try go_wp2
             have n0_ := A_ (Kd.R_drew HO_5.out)
             have n1_ := A_ (below_drew1 HB.out)
             clear HO_5 HB
             have HO_5 := n0_
             have HB := n1_
             clear n0_ n1_
             have p342 : 0 ≤ ((ji19) : Int) := of_decide_eq_true as_
             have q342 : (ji19) < (x5_2.length : Int) := of_decide_eq_true as_
             obtain ⟨ad342, e342, hx342_0⟩ := Kd.at_int (Kd.R_reads' HO_5.out).2.2 (ji19) p342 q342
             cases e342
             replace p342 := eq_true p342
             replace q342 := eq_true q342
             have p343 : 0 ≤ (x37_2 : Int) := of_decide_eq_true as_
             have q343 : x37_2 < (x5_2.length : Int) := of_decide_eq_true as_
             obtain ⟨ad343, e343, hx343_0⟩ := Kd.at_int (Kd.R_reads' HO_5.out).2.2 x37_2 p343 q343
             obtain rfl : ad342 = ad343 := (by injection e343)
             replace p343 := eq_true p343
             replace q343 := eq_true q343
             have p24 : 0 ≤ ((ji19) : Int) := of_decide_eq_true as_
             have q24 : ((ji19) : Int) < ((x5_2.length : Int) : Int) := of_decide_eq_true as_
             obtain ⟨go24, co24, eo24, gb24, gl24, cl24, HG24⟩ := Kd.R_form HO_5.out (by omega)
             (first | cases eo24 | (injection eo24 with ea_ en_ ec_; (first | subst ea_ | (injection ea_ with ea_; subst ea_)); subst ec_; clear en_))
             have GB24 := A_ gb24
             have GG24 := A_ HG24
             clear gb24 gl24 HG24
             (first | simp only [add_plain] at hx342_0 | skip)
             (first | simp only [add_plain] at hx343_0 | skip)
             obtain ⟨hx24_0, hf24_0⟩ := Kd.R_celln 0 HO_5.out ((ji19) : Int) p24 q24
             replace p24 := eq_true p24
             replace q24 := eq_true q24
             have HP27 := Kd.R_putn HO_5.out ((ji19) : Int) (wrap64 ((rd x5_2 (ji19)) + ((rd x5_2 x37_2) / 65536)))
             rw [← Ny344.out] at HP27
             have HQ27 := A_ HP27
             clear HP27
             refine start_ (n := 13) (S := fun w' => w'.cell? ⟨go24, ((ji19)).toNat, none⟩ = some (.int .i64 (rd x5_2 (ji19))) ∧ w'.cell? ⟨go24, (x37_2).toNat, none⟩ = some (.int .i64 (rd x5_2 x37_2))) (ds := [12]) #[false, false, false, false, false, false, false, false, false, false, false, false, false] (by kernel_rfl) rfl rfl ⟨hx342_0, hx343_0⟩ (fun hHeld => ?_); refine with_tabW impl_natAdd.tab11 impl_natAdd.bits11 (fun HT_ HW_ => ?_)
             generalize wr.drew = w26 at HO_5 HB GG24 HQ27 hf24_0 hx24_0 hx342_0 hx343_0 hHeld ⊢
             refine pure_ (i := 0) (N := some 40) (v := ?_) (a' := ?_) #[true, false, false, false, false, false, false, false, false, false, false, false, false] rfl rfl (any_of HT_.out (by kernel_rfl)) (fun _ _ _ h => h) (Or.inl ⟨by rfl, ?_⟩) ?_ ?_
             rotate_left
             ·intro w'
              go_simp
              with_reducible rfl
             rotate_left
             ·simp only [Act.put, List.setIfInBounds_toArray, List.set_cons_zero, List.set_cons_succ, i64_w, i32_w]
              rfl
             refine pure_ (i := 1) (N := some 41) (v := ?_) (a' := ?_) #[true, true, false, false, false, false, false, false, false, false, false, false, false] rfl rfl (any_of HT_.out (by kernel_rfl)) (fun _ _ _ h => h) (Or.inl ⟨by rfl, ?_⟩) ?_ ?_
             rotate_left
             ·intro w'
              go_simp
              with_reducible rfl
             rotate_left
             ·simp only [Act.put, List.setIfInBounds_toArray, List.set_cons_zero, List.set_cons_succ, i64_w, i32_w]
              rfl
             refine pure_ (i := 2) (N := some 42) (v := ?_) (a' := ?_) #[true, true, true, false, false, false, false, false, false, false, false, false, false] rfl rfl (any_of HT_.out (by kernel_rfl)) (fun _ _ _ h => h) (Or.inl ⟨by rfl, ?_⟩) ?_ ?_
             rotate_left
             ·intro w'
              go_simp
              with_reducible rfl
             rotate_left
             ·simp only [Act.put, List.setIfInBounds_toArray, List.set_cons_zero, List.set_cons_succ, i64_w, i32_w]
              rfl
             refine pure_ (i := 3) (N := some 43) (v := ?_) (a' := ?_) #[true, true, true, true, false, false, false, false, false, false, false, false, false] rfl rfl (any_of HT_.out (by kernel_rfl)) (fun _ _ _ h => h) (Or.inl ⟨by rfl, ?_⟩) ?_ ?_
             rotate_left
             ·intro w'
              go_simp
              with_reducible rfl
             rotate_left
             ·simp only [Act.put, List.setIfInBounds_toArray, List.set_cons_zero, List.set_cons_succ, i64_w, i32_w]
              rfl
             refine pure_ (i := 5) (N := some 45) (v := ?_) (a' := ?_) #[true, true, true, true, false, true, false, false, false, false, false, false, false] rfl rfl (any_of HT_.out (by kernel_rfl)) (fun _ _ _ h => h) (Or.inl ⟨by rfl, ?_⟩) ?_ ?_
             rotate_left
             ·intro w'
              go_simp
              with_reducible rfl
             rotate_left
             ·simp only [Act.put, List.setIfInBounds_toArray, List.set_cons_zero, List.set_cons_succ, i64_w, i32_w]
              rfl
             refine pure_ (i := 6) (N := some 46) (v := ?_) (a' := ?_) #[true, true, true, true, false, true, true, false, false, false, false, false, false] rfl rfl (any_of HT_.out (by kernel_rfl)) (fun _ _ _ h => h) (Or.inl ⟨by rfl, ?_⟩) ?_ ?_
             rotate_left
             ·intro w'
              go_simp
              with_reducible rfl
             rotate_left
             ·simp only [Act.put, List.setIfInBounds_toArray, List.set_cons_zero, List.set_cons_succ, i64_w, i32_w]
              rfl
             refine pure_ (i := 7) (N := some 47) (v := ?_) (a' := ?_) #[true, true, true, true, false, true, true, true, false, false, false, false, false] rfl rfl (any_of HT_.out (by kernel_rfl)) (fun _ _ _ h => h) (Or.inl ⟨by rfl, ?_⟩) ?_ ?_
             rotate_left
             ·intro w'
              go_simp
              with_reducible rfl
             rotate_left
             ·simp only [Act.put, List.setIfInBounds_toArray, List.set_cons_zero, List.set_cons_succ, i64_w, i32_w]
              rfl
             refine take_ (i := 4) (N := some 44) (v := ?_) (a' := ?_) #[true, true, true, true, true, true, true, true, false, false, false, false, false] rfl rfl (take_ofW HT_.out HW_.out (by kernel_rfl)) (fun _ _ _ h => h) (Or.inl ⟨by rfl, ?_⟩) hHeld ?_ ?_
             rotate_left
             ·rintro w' ⟨s0, s1⟩
              go_simp
              with_reducible rfl
             rotate_left
             ·simp only [Act.put, List.setIfInBounds_toArray, List.set_cons_zero, List.set_cons_succ, i64_w, i32_w]
              rfl
             refine take_ (i := 8) (N := some 48) (v := ?_) (a' := ?_) #[true, true, true, true, true, true, true, true, true, false, false, false, false] rfl rfl (take_ofW HT_.out HW_.out (by kernel_rfl)) (fun _ _ _ h => h) (Or.inl ⟨by rfl, ?_⟩) hHeld ?_ ?_
             rotate_left
             ·rintro w' ⟨s0, s1⟩
              go_simp
              with_reducible rfl
             rotate_left
             ·simp only [Act.put, List.setIfInBounds_toArray, List.set_cons_zero, List.set_cons_succ, i64_w, i32_w]
              rfl
             refine pure_ (i := 9) (N := some 49) (v := ?_) (a' := ?_) #[true, true, true, true, true, true, true, true, true, true, false, false, false] rfl rfl (any_of HT_.out (by kernel_rfl)) (fun _ _ _ h => h) (Or.inl ⟨by rfl, ?_⟩) ?_ ?_
             rotate_left
             ·intro w'
              go_simp
              with_reducible rfl
             rotate_left
             ·simp only [Act.put, List.setIfInBounds_toArray, List.set_cons_zero, List.set_cons_succ, i64_w, i32_w]
              rfl
             refine pure_ (i := 10) (N := some 50) (v := ?_) (a' := ?_) #[true, true, true, true, true, true, true, true, true, true, true, false, false] rfl rfl (any_of HT_.out (by kernel_rfl)) (fun _ _ _ h => h) (Or.inl ⟨by rfl, ?_⟩) ?_ ?_
             rotate_left
             ·intro w'
              go_simp
              with_reducible rfl
             rotate_left
             ·simp only [Act.put, List.setIfInBounds_toArray, List.set_cons_zero, List.set_cons_succ, i64_w, i32_w]
              rfl
             refine pure_ (i := 11) (N := some 51) (v := ?_) (a' := ?_) #[true, true, true, true, true, true, true, true, true, true, true, true, false] rfl rfl (any_of HT_.out (by kernel_rfl)) (fun _ _ _ h => h) (Or.inl ⟨by rfl, ?_⟩) ?_ ?_
             rotate_left
             ·intro w'
              go_simp
              with_reducible rfl
             rotate_left
             ·simp only [Act.put, List.setIfInBounds_toArray, List.set_cons_zero, List.set_cons_succ, i64_w, i32_w]
              rfl
             refine last_ (i := 12) (N := none) #[true, true, true, true, true, true, true, true, true, true, true, true, true] rfl rfl (one_of HT_.out (by kernel_rfl)) (by decide) (fun K hK => ?_)
             refine skip_ (w1 := ?_) (by rfl) rfl ?_ ?_
             rotate_left
             ·go_simp
              rfl
             refine hK.out _ _ ?_
             clear hK K
             refine done_ (done_of HT_.out (by kernel_rfl)) ?_
             have n0_ : Aside0 (Kd.R (Kd.int .i64) 3 (w26.setCell ⟨go24, ((ji19) : Int).toNat, none⟩ (.int .i64 (wrap64 ((rd x5_2 (ji19)) + ((rd x5_2 x37_2) / 65536))))) w.heap.size (fun k_ => (w.heap.size ≤ k_)) (.slice (some ⟨go24, 0, none⟩) x5_2.length co17) y344) := ⟨by (with_reducible repeat (first | apply Kd.R_alloc | apply Kd.R_drewN | apply Kd.R_drew)); exact HQ27.out⟩
             have n1_ : Aside0 (Below w.heap.size w (w26.setCell ⟨go24, ((ji19) : Int).toNat, none⟩ (.int .i64 (wrap64 ((rd x5_2 (ji19)) + ((rd x5_2 x37_2) / 65536)))))) := ⟨by repeat (first | (with_reducible first | exact HB.out | apply b1_ | apply b2_ | apply b3_ | refine bs_ ?_ GB24.out) | exact HB.out)⟩
             (try clear HO_5)
             (try clear HB)
             generalize (w26.setCell ⟨go24, ((ji19) : Int).toNat, none⟩ (.int .i64 (wrap64 ((rd x5_2 (ji19)) + ((rd x5_2 x37_2) / 65536))))) = w28 at n0_ n1_ ⊢
             have HO_5 := n0_
             have HB := n1_
             clear n0_ n1_
             have p345 : 0 ≤ (x37_2 : Int) := of_decide_eq_true as_
             have q345 : x37_2 < (y344.length : Int) := (by have h_ : (x37_2 : Int) < ((x5_2.length : Int) : Int) := of_decide_eq_true as_; first | (have e_ := (Kd.R_reads' HO_5.out).1; omega) | simpa only [Ny344.out, List.length_set] using h_)
             have ql345 : ((x37_2 : Int) < ((x5_2.length : Int) : Int)) = True := eq_true (of_decide_eq_true as_)
             obtain ⟨ad345, e345, hx345_0⟩ := Kd.at_int (Kd.R_reads' HO_5.out).2.2 x37_2 p345 q345
             obtain rfl : (⟨go24, 0, none⟩ : Addr) = ad345 := (by injection e345)
             (first | simp only [add_plain] at hx345_0 | simp only [add_at] at hx345_0 | simp only [Addr.add, Nat.zero_add] at hx345_0 | skip)
             replace p345 := eq_true p345
             replace q345 := eq_true q345
             have p25 : 0 ≤ (x37_2 : Int) := of_decide_eq_true as_
             have q25 : (x37_2 : Int) < ((x5_2.length : Int) : Int) := of_decide_eq_true as_
             obtain ⟨hx25_0, hf25_0⟩ := Kd.R_celln 0 HO_5.out (x37_2 : Int) p25 q25
             replace p25 := eq_true p25
             replace q25 := eq_true q25
             obtain ⟨hy29_, hz29_⟩ := Kd.R_celln 0 HO_5.out (x37_2 : Int) (of_decide_eq_true as_) (of_decide_eq_true as_)
             have HP29 := Kd.R_putg HO_5.out (x37_2 : Int) (Go.bits .and .i64 (rd y344 x37_2) 65535)
             try go_wp2_with (first | ((with_reducible refine gate_store (t := 3) (p := 57) rfl ?_); refine store_event (t := 3) (p := 57) (v := ?vo_w30) (w1 := (w28.setCell ⟨go24, (x37_2 : Int).toNat, none⟩ (.int .i64 (Go.bits .and .i64 (rd y344 x37_2) 65535)))) ?hg ?ho ?hn ?hr ?_; (case ho => rfl); (case hg => rfl); (case hn => rfl); (case hr => first | (go_simp; done) | (go_simp; rfl)); intro w30 hw; have hg : w28.grownBy w30 (some go24) := (by rw [hw]; exact HP29.2); have hp_ : Kd.R (Kd.int .i64) 3 w30 w.heap.size (fun k_ => (w.heap.size ≤ k_)) (.slice (some ⟨go24, 0, none⟩) x5_2.length co17) y346 := (by rw [hw, Ny346.out]; first | exact HP29.1 | exact Kd.R_mono HP29.1 (fun _ hk => (by first | (refine ⟨?_, ?_, ?_, ?_⟩ <;> first | exact hk.1 | exact hk.2.1 | exact hk.2.2.1 | exact hk.2.2.2 | exact hk.1.1 | exact hk.1.2) | (refine ⟨?_, ?_, ?_⟩ <;> first | exact hk.1 | exact hk.2.1 | exact hk.2.2 | exact hk.1.1 | exact hk.1.2)))); clear HP29; have n0_ := A_ (hp_); have n1_ := A_ ((by rw [hw]; exact below_set (HB.out) GB24.out : Below w.heap.size w w30)); clear HO_5 HB; have HO_5 := n0_; have HB := n1_; clear n0_ n1_; clear hg hw hp_))
             (try simp only [← hl5_2])
             go_roundg k2
             case measure => have := HK1.out; have := HK2.out; omega
             case rel => exact ⟨(y346), (ji19), (by first | rfl | (simp; done) | (simp only [← hji19] <;> (first | rfl | simp)) | (simp [*]; done)), (by first | exact H' | (rw [hji19]; exact H')), ⟨by have := HK1.out; have := HK2.out; omega⟩, ⟨by (try simp only [hl5_2]); (with_reducible repeat (first | apply Kd.R_alloc | apply Kd.R_drewN | apply Kd.R_drew)); exact HO_5.out⟩, ⟨hB_⟩⟩
            ·rw [if_neg c23] at H
             exact absurd H (by simp)
           ·rw [if_neg c22] at H
            exact absurd H (by simp)
          ·rw [if_neg c21] at H
           exact absurd H (by simp)
         ·rw [if_neg c20] at H
          exact absurd H (by simp)
        ·rw [if_neg c18] at H
         have c18b0 : decide (x37_2 < (wrap64 ((x5_1.length : Int) - 1))) = false := decide_eq_false c18
         (try (have c18b0_ := c18b0; simp only [hl5_2] at c18b0_))
         clear c18
         replace H := Option.bind_eq_some_iff.mp H
         obtain ⟨t347, A310, H⟩ := H
         replace H : (some t347) = some r := H
         have A31 := A_ A310
         clear A310
         obtain rfl := Option.some.inj H
         go_wp2_with (first | ((with_reducible refine gate_callee (f := 47) rfl ?_); refine goesL_ (some 60) rfl rfl Tryd.func47 (by kernel_rfl) rfl #[.slice Ao17 x5_2.length co17] rfl (by (try simp only [List.map_toArray, List.map_cons, List.map_nil]); first | done | rfl) ?_; (with_reducible refine (impl_trim.calls k2 (fun k_ => some k_ = (.slice Ao17 x5_2.length co17 : Value).ownBlock) _ _ x5_2 t347 _ ?side1 A31.out).mono ?_); (case side1 => exact Kd.R_V (Kd.R_tight rfl (HO_5.out))); rintro e w32 ⟨v348, rfl, ho0, hb⟩; refine ⟨_, rfl, ?_⟩; have n0_ := A_ (Kd.R_below (rz_ HO_5.out) hb); have n1_ := A_ (Kd.V_lower (Kd.V_mono (ok' := fun k_ => (w.heap.size ≤ k_)) ho0 (fun k_ hk_ => Or.elim hk_ (fun hs_ => ((HO_5.out).1 k_ hs_.symm)) (fun hn_ => (Nat.le_trans (below_size hB_) hn_)))) (below_size hB_)); have n2_ := A_ (below_step hB_ hb); clear HO_5 HB; have HO_5 := n0_; have HO349 := n1_; have HB := n2_; clear n0_ n1_ n2_; (try clear hb); (try clear hb2); (try clear hk); (try clear hi); (try clear ho0)))
         go_ret
         exact ⟨_, by first | rfl | (simp [errW_none, errW_some] <;> rfl) | (simp only [← hji3, ← hji4]; first | rfl | (simp [errW_none, errW_some] <;> rfl)) | (simp [*, errW_none, errW_some] <;> rfl), by (with_reducible repeat (first | apply Kd.V_alloc | apply Kd.V_drewN | apply Kd.V_drew)); exact HO349.out, hB_⟩
  ·rw [if_neg c6] at H
   exact absurd H (by simp)
 ·rw [if_neg c5] at H
  exact absurd H (by simp)

/-! ### impl_natOf: function 45 -/
def impl_natOf.l0 : Nat → Int → List Int → Option (List Int)
 | 0, _, _ => none
 | k + 1, x0, x3 => if x0 > 0 then (if x3.length < 17592186044416 then (impl_natOf.l0 k (x0 / 65536) (x3 ++ [wrap64 (Go.bits .and .u64 x0 65535)])) else (none)) else (some x3)
def impl_natOf.f (k : Nat) (a0 : Int) : Option (List Int) := impl_natOf.l0 k a0 ([] : List Int)
set_option maxHeartbeats 8000000 in
set_option maxRecDepth 100000 in
theorem impl_natOf.calls (k : Nat) (a0 : Int) (r : List Int) (w : World) (h : impl_natOf.f k a0 = some r) :
  Calls Tryd.prog 45 #[.int .u64 a0] w fun e w' => ∃ v0_ : Value, e = .returned (v0_) ∧ Kd.R (Kd.int .i64) 3 w' w.heap.size (fun _ => True) v0_ r ∧ Below w.heap.size w w' := by
 have HB := A_ (Below.refl w.heap.size w)
 have H : (impl_natOf.l0 k a0 ([] : List Int)) = some r := h
 clear h
 have H' := A_ H
 clear H
 go_enter Tryd.func45, Tryd.ntmps45
 go_wp2
 go_loopg [0, 3] k (fun kq v0 v3 w' => ∃ (x0_1 : Int) (x3_1 : List Int), v0 = .int .u64 x0_1 ∧ Aside0 (impl_natOf.l0 kq x0_1 x3_1 = some r) ∧ Aside0 (kq ≤ k) ∧ Aside0 (Kd.R (Kd.int .i64) 3 w' w.heap.size (fun _ => True) v3 x3_1) ∧ Aside0 (Below w.heap.size w w'))
 case atStart => exact ⟨(a0), (([] : List Int)), (by first | rfl | (simp; done) | (simp [*]; done)), H', ⟨Nat.le_refl _⟩, ⟨by first | exact Kd.R_nil _ _ _ _ _ | exact Kd.N_nil _ _ _ _ _ | exact Kd.V_nil _ _ _ _ _ | exact Kd.Q_nil _ _ _ _ _ | exact Kd.S_nil _ _ _ _ _⟩, ⟨hB_⟩⟩
 case round =>
  clear H'
  obtain ⟨x0_1, x3_1, rfl, HA, HK1, HO_3, HB⟩ := hrel
  cases gk with
  | zero => exact absurd HA.out (by simp [impl_natOf.l0])
  | succ k1 =>
   have H := HA.out
   clear HA
   simp only [impl_natOf.l0] at H
   by_cases c2 : x0_1 > 0
   ·rw [if_pos c2] at H
    have c2b0 : decide (0 < x0_1) = true := decide_eq_true c2
    clear c2
    by_cases c3 : x3_1.length < 17592186044416
    ·rw [if_pos c3] at H
     have LMc3 := A_ c3
     clear c3
     obtain ⟨y350, hy350⟩ : ∃ y_ : List Int, y_ = (x3_1 ++ [wrap64 (Go.bits .and .u64 x0_1 65535)]) := ⟨_, rfl⟩
     replace H : (impl_natOf.l0 k1 (x0_1 / 65536) y350) = some r := by first | (rw [hy350]; with_reducible exact H) | (have H2_ := (Option.bind_some _ _).symm.trans H; rw [hy350]; with_reducible exact H2_) | (have H2_ := (Option.bind_some _ _).symm.trans H; with_reducible exact H2_) | with_reducible exact H | (rw [hy350]; exact H) | exact H
     have Ny350 := A_ hy350
     clear hy350
     have H' := A_ H
     clear H
     go_wp2_with (first | ((with_reducible refine gate_builtin (b := .append) (xs := #[.tmp 8, .tmp 12]) rfl ?_); at_builtin; refine Kd.R_append (Kd.int .i64) (w0 := w) w.heap.size rfl (.tmp 8) (.tmp 12) 23 3 (.int .i64 0) 8 rfl Tryd.underlying23 info3 rfl (by decide) (by omega) u3 x3_1 (wrap64 (Go.bits .and .u64 x0_1 65535)) [.int .i64 (wrap64 (Go.bits .and .u64 x0_1 65535))] (fun _ => True) (fun _ => False) rfl rfl ?aP (fun _ hk => hk.elim) ?aF ?aO ?aB ?aS ?aL ?_; (case aP => exact rfl); (case aB => exact hB_); (case aF => exact (fun _ _ => trivial)); (case aO => exact (rz_ HO_3.out)); (case aS => exact (below_size hB_)); (case aL => have := LMc3.out; omega); intro v351 w4 ho hb hg hat; rw [← Ny350.out] at ho; have n0_ := A_ (hb); have n1_ := A_ (ho); clear HB HO_3; have HB := n0_; have HO352 := n1_; clear n0_ n1_; clear ho hb hg hat))
     go_roundg k1
     case measure => have := HK1.out; omega
     case rel => exact ⟨(x0_1 / 65536), (y350), (by first | rfl | (simp; done) | (simp [*]; done)), H', ⟨by have := HK1.out; omega⟩, ⟨by (with_reducible repeat (first | apply Kd.R_alloc | apply Kd.R_drewN | apply Kd.R_drew)); exact HO352.out⟩, ⟨hB_⟩⟩
    ·rw [if_neg c3] at H
     exact absurd H (by simp)
   ·rw [if_neg c2] at H
    have c2b0 : decide (0 < x0_1) = false := decide_eq_false c2
    clear c2
    obtain rfl := Option.some.inj H
    go_wp2
    go_ret
    exact ⟨_, by first | rfl | (simp [errW_none, errW_some] <;> rfl) | (simp [*, errW_none, errW_some] <;> rfl), by (with_reducible repeat (first | apply Kd.R_alloc | apply Kd.R_drewN | apply Kd.R_drew)); exact HO_3.out, hB_⟩
theorem impl_natOf.callsX (k : Nat) (a0 : Int) (r : List Int) (w : World) (h : impl_natOf.f k a0 = some r) :
  Calls Tryd.prog 45 #[.int .u64 a0] w fun e w' => ∃ v0_ : Value, e = .returned (v0_) ∧ XR (Kd.int .i64) 3 w' w.heap.size (fun _ => True) v0_ r ∧ Below w.heap.size w w' :=
 (impl_natOf.calls k a0 r w h).mono fun e w' ⟨v0_, p0_, p1_, p2_⟩ => ⟨v0_, p0_, XR_of p1_, p2_⟩

end Go.Proofs.YtmdeolonjmjmgaaDoor.QFnExactDecFrac
