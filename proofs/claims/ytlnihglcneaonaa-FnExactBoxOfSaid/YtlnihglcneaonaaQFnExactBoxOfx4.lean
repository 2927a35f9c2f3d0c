/- The machine side of one law: each function and the law itself walked once, written by a program of this session (wip/xprint.py) that runs the printer of the kit.
   Conditions: none. -/
import Derived.Test.YtlnihglcneaonaaQFnExactBoxOfx0
import Derived.Test.YtlnihglcneaonaaQFnExactBoxOfx3
namespace Go.Proofs.Ytlnihglcneaonaa.QFnExactBoxOf
open Go.RowKit Go.Proofs.YtlnihglcneaonaaW.PrintWords Go.Proofs.YtlnihglcneaonaaW.PrintLast Go.Proofs.YtlnihglcneaonaaW.PrintMore
attribute [local go_sem] Go.Instr.field Go.asAgg Go.Proofs.Ytlnihglcneaonaa.MS.isSome_setCell
attribute [local go_sem] max2_int min2_int max_two min_two max_three min_three max_four min_four   -- for this text's walks alone
set_option linter.unusedVariables false
set_option linter.unusedSimpArgs false

-- NOT PRINTED: function 50 (impl_Pair_50)

-- NOT PRINTED: function 51 (impl_BoxOk_1)

/-! ### impl_BoxOk: function 19 -/
/-- A pair that is none. -/
def bokBad (a0 : Int) (x : S64) : Bool := !(impl_PairOk.f a0 x.f0 x.f1 == some true)
def bokIn (a0 : Int) (l : List S64) : Bool := l.all fun x => (impl_PairOk.f a0 x.f0 x.f1).isSome
def impl_BoxOk.f (a0 : Int) (l1_0 : List S64) : Option (Bool) := if bokIn a0 l1_0 = true then some (decide (1 ≤ l1_0.length ∧ l1_0.length ≤ 6) && !(l1_0.any (bokBad a0))) else none
set_option maxHeartbeats 8000000 in
set_option maxRecDepth 100000 in
theorem boxok_pred (a0 lo hi : Int) (b : Bool) (q : Nat) (w : World) (hq : w.cell? ⟨q, 0, none⟩ = some (.int .i64 a0)) (h : impl_PairOk.f a0 lo hi = some (!b)) :
    Calls Try.prog 51 #[.agg #[.int .i64 lo, .int .i64 hi], .pointer (some ⟨q, 0, none⟩)] w fun e w' => e = .returned (.bool b) ∧ Below w.heap.size w w' := by
  have hu64 := Try.underlying64
  have HB := Aside0.mk (Below.refl w.heap.size w)
  have HQ := Aside0.mk hq
  have HA := Aside0.mk h
  clear hq h
  go_enter Try.func51, Try.ntmps51
  go_wp2_with (first | ((with_reducible refine gate_dst (N := 2) rfl ?_); refine box_event ?hg (N := 2) ?hd (cs := #[.int .i64 lo, .int .i64 hi]) (t := 64) ?hr ?_; (case hd => rfl); (case hg => rfl); (case hr => first | (go_simp; done) | (go_simp; rfl)); intro gb hg w4 hbox hb; have n0_ := Aside0.mk (below_step (by repeat (first | (with_reducible first | exact HB.out | apply below_alloc | apply pw_below_drewN | apply below_drew1) | exact HB.out)) hb); have n1_ := Aside0.mk (hbox); clear HB; have HB := n0_; have BK := n1_; clear n0_ n1_; clear hb hbox hg; have hcq : w4.cell? ⟨q, 0, none⟩ = some (.int .i64 a0) := (HB.out.cell (p := ⟨q, 0, none⟩) (World.block_lt_of_cell? w _ HQ.out)).trans HQ.out; have hcz0 : w4.cell? ⟨gb, 0, none⟩ = some (.int .i64 lo) := (blk_cell BK.out 0).trans rfl; have hcz1 : w4.cell? ⟨gb, 1, none⟩ = some (.int .i64 hi) := (blk_cell BK.out 1).trans rfl; have hfz0 := blk_frozen BK.out 0; have hfz1 := blk_frozen BK.out 1) | (go_at_call 52; (with_reducible refine (impl_PairOk.calls a0 lo hi (!b) _ HA.out).mono ?_); rintro e w9 ⟨rfl, hb⟩; have n2_ := Aside0.mk (below_step (by repeat (first | (with_reducible first | exact HB.out | apply below_alloc | apply pw_below_drewN | apply below_drew1) | exact HB.out)) hb); clear HB; have HB := n2_; clear n2_; clear hb))
  go_ret
  exact ⟨by first | rfl | (simp; done) | (simp [*]; done), by repeat (first | (with_reducible first | exact HB.out | apply below_alloc | apply pw_below_drewN | apply below_drew1) | exact HB.out)⟩
set_option maxHeartbeats 8000000 in
set_option maxRecDepth 100000 in
theorem boxok_idx (a0 : Int) (A0 : Option Addr) (c0 : Nat) (l0 : List S64) (b : Bool) (q : Nat) (w : World) (hq : w.cell? ⟨q, 0, none⟩ = some (.int .i64 a0)) (hr0 : Kd.C k64 w A0 l0.length l0) (hm : l0.length ≤ 6) (hin : bokIn a0 l0 = true) (h : l0.any (bokBad a0) = b) :
    Calls Try.prog 69 #[.slice A0 l0.length c0, .func (.func 51) #[] #[.pointer (some ⟨q, 0, none⟩)]] w fun e w' => (∃ r : Int, e = .returned (.int .i64 r) ∧ decide (0 ≤ r) = b) ∧ Below w.heap.size w w' := by
  have hu64 := Try.underlying64
  have HR0 := Aside0.mk hr0
  have HQ := Aside0.mk hq
  have HH := Aside0.mk h
  have HI0 := Aside0.mk hin
  have HM := Aside0.mk hm
  clear hr0 hq h hin hm
  go_enter Try.func69, Try.ntmps69
  go_wp2
  go_loopg [5, 8] l0.length (fun kq v5 v8 wr => ∃ x : Int, v8 = .int .i64 x ∧ Aside0 (0 ≤ x ∧ x ≤ l0.length ∧ l0.length - x.toNat ≤ kq) ∧ Aside0 ((l0.take x.toNat).any (bokBad a0) = false) ∧ Aside0 (Below w.heap.size w wr))
  case atStart => exact ⟨0, rfl, ⟨by omega⟩, ⟨rfl⟩, ⟨by repeat (first | (with_reducible first | exact Below.refl _ _ | apply below_alloc | apply pw_below_drewN | apply below_drew1) | exact Below.refl _ _)⟩⟩
  case round =>
    obtain ⟨x, rfl, HI, HA, HB⟩ := hrel
    by_cases hlt : x < l0.length
    · have hb0 : decide (x < (l0.length : Int)) = true := decide_eq_true hlt
      have p1 : 0 ≤ x := HI.out.1
      obtain ⟨ad1, e1, hx1, hx2⟩ := at_T64 (Kd.C_below HR0.out HB.out) x p1 hlt
      cases e1
      have hltn : x.toNat < l0.length := by omega
      have hget : rd_T64 l0 x = l0[x.toNat] := by simp [rd_T64, List.getD_eq_getElem?_getD, List.getElem?_eq_getElem hltn]
      have HS : Aside0 ((l0.take (x.toNat + 1)).any (bokBad a0) = bokBad a0 (rd_T64 l0 x)) := ⟨by
        rw [List.take_succ_eq_append_getElem hltn, List.any_append, HA.out, hget]; simp⟩
      have HT : Aside0 (bokBad a0 (rd_T64 l0 x) = true → l0.any (bokBad a0) = true) := ⟨fun z => by
        rw [List.any_eq_true]; exact ⟨l0[x.toNat], List.getElem_mem hltn, by rw [← hget]; exact z⟩⟩
      have HP : Aside0 (impl_PairOk.f a0 (rd_T64 l0 x).f0 (rd_T64 l0 x).f1 = some (!(bokBad a0 (rd_T64 l0 x)))) := ⟨by
        have hs := List.all_eq_true.1 HI0.out _ (List.getElem_mem hltn)
        rw [← hget] at hs
        unfold bokBad
        cases hp : impl_PairOk.f a0 (rd_T64 l0 x).f0 (rd_T64 l0 x).f1 with
        | none => rw [hp] at hs; cases hs
        | some v => cases v <;> rfl⟩
      have HQ2 : Aside0 (∀ W : World, Below w.heap.size w W → W.cell? ⟨q, 0, none⟩ = some (.int .i64 a0)) := ⟨fun W hW => (hW.cell (p := ⟨q, 0, none⟩) (World.block_lt_of_cell? w _ HQ.out)).trans HQ.out⟩
      have HQ : Aside0 (x < l0.length) := ⟨hlt⟩
      have hx3 : wrap64 (x + 1) = x + 1 := by have := HM.out; unfold wrap64; omega
      have HX := Aside0.mk hx3
      clear hget hltn hx3
      replace p1 := eq_true p1
      replace hlt := eq_true hlt
      cases hc : bokBad a0 (rd_T64 l0 x) with
      | true =>
        have Hq := Aside0.mk hc
        have hcall := fun W hW => boxok_pred a0 (rd_T64 l0 x).f0 (rd_T64 l0 x).f1 true q W hW (by rw [HP.out, hc])
        have HC := Aside0.mk hcall
        clear hc hcall
        go_wp2_with (go_at_call 51; (with_reducible refine (HC.out _ ?side1).mono ?_); (case side1 => exact HQ2.out _ (by repeat (first | (with_reducible first | exact HB.out | apply below_alloc | apply pw_below_drewN | apply below_drew1) | exact HB.out))); rintro e w9 ⟨rfl, hb⟩; have n2_ := Aside0.mk (below_step (by repeat (first | (with_reducible first | exact HB.out | apply below_alloc | apply pw_below_drewN | apply below_drew1) | exact HB.out)) hb); clear HB; have HB := n2_; clear n2_; clear hb)
        go_ret
        exact ⟨⟨x, rfl, by rw [← HH.out, HT.out Hq.out]; exact decide_eq_true HI.out.1⟩, by repeat (first | (with_reducible first | exact HB.out | apply below_alloc | apply pw_below_drewN | apply below_drew1) | exact HB.out)⟩
      | false =>
        have Hq := Aside0.mk hc
        have hcall := fun W hW => boxok_pred a0 (rd_T64 l0 x).f0 (rd_T64 l0 x).f1 false q W hW (by rw [HP.out, hc])
        have HC := Aside0.mk hcall
        clear hc hcall
        go_wp2_with (go_at_call 51; (with_reducible refine (HC.out _ ?side1).mono ?_); (case side1 => exact HQ2.out _ (by repeat (first | (with_reducible first | exact HB.out | apply below_alloc | apply pw_below_drewN | apply below_drew1) | exact HB.out))); rintro e w9 ⟨rfl, hb⟩; have n2_ := Aside0.mk (below_step (by repeat (first | (with_reducible first | exact HB.out | apply below_alloc | apply pw_below_drewN | apply below_drew1) | exact HB.out)) hb); clear HB; have HB := n2_; clear n2_; clear hb)
        go_roundg (l0.length - (x.toNat + 1))
        case measure => have := HI.out; have := HQ.out; omega
        case rel => exact ⟨wrap64 (x + 1), by first | rfl | (rw [HX.out]), ⟨by have := HI.out; have := HQ.out; rw [HX.out]; omega⟩, ⟨by rw [HX.out, show (x + 1).toNat = x.toNat + 1 from by have := HI.out; omega]; exact HS.out.trans Hq.out⟩, ⟨by repeat (first | (with_reducible first | exact HB.out | apply below_alloc | apply pw_below_drewN | apply below_drew1) | exact HB.out)⟩⟩
    · have hb0 : decide (x < (l0.length : Int)) = false := decide_eq_false hlt
      have HQ3 : Aside0 (¬ x < l0.length) := ⟨hlt⟩
      clear hlt
      go_wp2
      go_ret
      refine ⟨⟨-1, rfl, ?_⟩, by repeat (first | (with_reducible first | exact HB.out | apply below_alloc | apply pw_below_drewN | apply below_drew1) | exact HB.out)⟩
      have hz := HA.out
      rw [List.take_of_length_le (by have := HQ3.out; omega)] at hz
      rw [← HH.out, hz]; rfl
theorem boxok_any (a0 : Int) (A0 : Option Addr) (c0 : Nat) (l0 : List S64) (b : Bool) (q : Nat) (w : World) (hq : w.cell? ⟨q, 0, none⟩ = some (.int .i64 a0)) (hr0 : Kd.C k64 w A0 l0.length l0) (hm : l0.length ≤ 6) (hin : bokIn a0 l0 = true) (h : l0.any (bokBad a0) = b) :
    Calls Try.prog 50 #[.slice A0 l0.length c0, .func (.func 51) #[] #[.pointer (some ⟨q, 0, none⟩)]] w fun e w' => e = .returned (.bool b) ∧ Below w.heap.size w w' := by
  have HI := Aside0.mk (boxok_idx a0 A0 c0 l0 b q w hq hr0 hm hin h)
  clear hr0 hq h hin hm
  go_enter Try.func50, Try.ntmps50
  go_wp2_with (go_at_call 69; (with_reducible refine HI.out.mono ?_); rintro e w9 ⟨⟨r, rfl, hr⟩, hb⟩; have HB := Aside0.mk hb; clear hb)
  go_ret
  exact ⟨by first | rfl | (simp; done) | (simp [*]; done), by repeat (first | (with_reducible first | exact HB.out | apply below_alloc | apply pw_below_drewN | apply below_drew1) | exact HB.out)⟩
set_option maxHeartbeats 8000000 in
set_option maxRecDepth 100000 in
theorem impl_BoxOk.calls (a0 : Int) (A1_0 : Option Addr) (c1_0 : Nat) (l1_0 : List S64) (r : Bool) (w : World) (hr1_0 : Kd.C k64 w A1_0 l1_0.length l1_0) (hc1_0 : l1_0.length ≤ c1_0) (h : impl_BoxOk.f a0 l1_0 = some r) :
    Calls Try.prog 19 #[.int .i64 a0, .agg #[.slice A1_0 l1_0.length c1_0]] w fun e w' => e = .returned (.bool r) ∧ Below w.heap.size w w' := by
  have hu37 := Try.underlying37
  have HR := Aside0.mk hr1_0
  have HB := Aside0.mk (Below.refl w.heap.size w)
  unfold impl_BoxOk.f at h
  by_cases hin : bokIn a0 l1_0 = true
  · rw [if_pos hin] at h
    have H := Option.some.inj h
    clear h hr1_0 hc1_0
    have HIN := Aside0.mk hin
    clear hin
    by_cases hc : 1 ≤ l1_0.length ∧ l1_0.length ≤ 6
    · obtain ⟨b, hb0⟩ : ∃ b, l1_0.any (bokBad a0) = b := ⟨_, rfl⟩
      rw [decide_eq_true hc, hb0, Bool.true_and] at H
      subst H
      have HA := Aside0.mk hb0
      have HM : Aside0 (l1_0.length ≤ 6) := ⟨hc.2⟩
      have HN : Aside0 (impl_in.f (l1_0.length : Int) 1 6 = some true) := ⟨by
        unfold impl_in.f
        rw [if_pos (by omega), decide_eq_true (by omega)]⟩
      clear hc hb0
      go_enter Try.func19, Try.ntmps19
      go_wp2_with (first | ((with_reducible refine gate_dst (N := 2) rfl ?_); refine box_event ?hg (N := 2) ?hd (cs := #[.int .i64 a0]) (t := 3) ?hr ?_; (case hd => rfl); (case hg => rfl); (case hr => first | (go_simp; done) | (go_simp; rfl)); intro gb1 hg w4 hbox hb; have n0_ := Aside0.mk (below_step (by repeat (first | (with_reducible first | exact HB.out | apply below_alloc | apply pw_below_drewN | apply below_drew1) | exact HB.out)) hb); have n1_ := Aside0.mk (hbox); clear HB; have HB := n0_; have BK1 := n1_; clear n0_ n1_; clear hb hbox hg) | ((with_reducible refine gate_dst (N := 3) rfl ?_); refine box_event ?hg (N := 3) ?hd (cs := #[.slice A1_0 l1_0.length c1_0]) (t := 37) ?hr ?_; (case hd => rfl); (case hg => rfl); (case hr => first | (go_simp; done) | (go_simp; rfl)); intro gb2 hg w5 hbox hb; have n0_ := Aside0.mk (blk_below (g := gb1) (o := .cells #[.int .i64 a0] 3 (0, 0)) (by (with_reducible repeat (first | refine blk_drewN ?_ _ | refine blk_drew ?_ | refine blk_alloc ?_ _)); exact BK1.out) hb); have n1_ := Aside0.mk (below_step (by repeat (first | (with_reducible first | exact HB.out | apply below_alloc | apply pw_below_drewN | apply below_drew1) | exact HB.out)) hb); have n2_ := Aside0.mk (hbox); clear BK1; clear HB; have BK1 := n0_; have HB := n1_; have BK2 := n2_; clear n0_ n1_ n2_; clear hb hbox hg; have hcz1 : w5.cell? ⟨gb1, 0, none⟩ = some (.int .i64 a0) := (blk_cell BK1.out 0).trans rfl; have hfz1 := blk_frozen BK1.out 0; have hcz2 : w5.cell? ⟨gb2, 0, none⟩ = some (.slice A1_0 l1_0.length c1_0) := (blk_cell BK2.out 0).trans rfl; have hfz2 := blk_frozen BK2.out 0) | (go_at_call 38; (with_reducible refine (impl_in.calls (l1_0.length : Int) 1 6 true _ HN.out).mono ?_); rintro e w' ⟨rfl, ⟨nd, rfl⟩⟩) | (go_at_call 50; (with_reducible refine (boxok_any a0 A1_0 c1_0 l1_0 b gb1 _ ?side1 ?side2 HM.out HIN.out HA.out).mono ?_); (case side1 => exact (blk_cell (g := gb1) (cs := #[.int .i64 a0]) (t := 3) (by (with_reducible repeat (first | refine blk_drewN ?_ _ | refine blk_drew ?_ | refine blk_alloc ?_ _)); exact BK1.out) 0).trans rfl); (case side2 => repeat (first | exact (Kd.C_below HR.out HB.out) | (with_reducible refine Kd.C_alloc ?_ _) | (with_reducible refine Kd.C_drewN ?_ _) | (with_reducible refine Kd.C_drew ?_))); rintro e w9 ⟨rfl, hb⟩; have n2_ := Aside0.mk (below_step (by repeat (first | (with_reducible first | exact HB.out | apply below_alloc | apply pw_below_drewN | apply below_drew1) | exact HB.out)) hb); clear HB; have HB := n2_; clear n2_; clear hb))
      go_ret
      exact ⟨by first | rfl | (simp; done) | (simp [*]; done), (by repeat (first | (with_reducible first | exact HB.out | apply below_alloc | apply pw_below_drewN | apply below_drew1) | exact HB.out))⟩
    · rw [decide_eq_false hc, Bool.false_and] at H
      subst H
      have HN : Aside0 (impl_in.f (l1_0.length : Int) 1 6 = some false) := ⟨by
        unfold impl_in.f
        by_cases h1 : (l1_0.length : Int) ≥ 1
        · rw [if_pos h1, decide_eq_false (by omega)]
        · rw [if_neg h1]⟩
      clear hc HIN
      go_enter Try.func19, Try.ntmps19
      go_wp2_with (first | ((with_reducible refine gate_dst (N := 2) rfl ?_); refine box_event ?hg (N := 2) ?hd (cs := #[.int .i64 a0]) (t := 3) ?hr ?_; (case hd => rfl); (case hg => rfl); (case hr => first | (go_simp; done) | (go_simp; rfl)); intro gb1 hg w4 hbox hb; have n0_ := Aside0.mk (below_step (by repeat (first | (with_reducible first | exact HB.out | apply below_alloc | apply pw_below_drewN | apply below_drew1) | exact HB.out)) hb); have n1_ := Aside0.mk (hbox); clear HB; have HB := n0_; have BK1 := n1_; clear n0_ n1_; clear hb hbox hg) | ((with_reducible refine gate_dst (N := 3) rfl ?_); refine box_event ?hg (N := 3) ?hd (cs := #[.slice A1_0 l1_0.length c1_0]) (t := 37) ?hr ?_; (case hd => rfl); (case hg => rfl); (case hr => first | (go_simp; done) | (go_simp; rfl)); intro gb2 hg w5 hbox hb; have n0_ := Aside0.mk (blk_below (g := gb1) (o := .cells #[.int .i64 a0] 3 (0, 0)) (by (with_reducible repeat (first | refine blk_drewN ?_ _ | refine blk_drew ?_ | refine blk_alloc ?_ _)); exact BK1.out) hb); have n1_ := Aside0.mk (below_step (by repeat (first | (with_reducible first | exact HB.out | apply below_alloc | apply pw_below_drewN | apply below_drew1) | exact HB.out)) hb); have n2_ := Aside0.mk (hbox); clear BK1; clear HB; have BK1 := n0_; have HB := n1_; have BK2 := n2_; clear n0_ n1_ n2_; clear hb hbox hg; have hcz1 : w5.cell? ⟨gb1, 0, none⟩ = some (.int .i64 a0) := (blk_cell BK1.out 0).trans rfl; have hfz1 := blk_frozen BK1.out 0; have hcz2 : w5.cell? ⟨gb2, 0, none⟩ = some (.slice A1_0 l1_0.length c1_0) := (blk_cell BK2.out 0).trans rfl; have hfz2 := blk_frozen BK2.out 0) | (go_at_call 38; (with_reducible refine (impl_in.calls (l1_0.length : Int) 1 6 false _ HN.out).mono ?_); rintro e w' ⟨rfl, ⟨nd, rfl⟩⟩))
      go_ret
      exact ⟨by first | rfl | (simp; done) | (simp [*]; done), (by repeat (first | (with_reducible first | exact HB.out | apply below_alloc | apply pw_below_drewN | apply below_drew1) | exact HB.out))⟩
  · rw [if_neg hin] at h
    cases h

/-! ### impl_BitOrd: function 62 -/
def impl_BitOrd.j0 : Nat → Int → Int → Bool → Int → Int → Int → Int → Option (Int × Bool)
  | 0, _, _, _, _, _, _, _ => none
  | k + 1, x0, x1, x24, x175000, x175001, x175002, x175003 => if x24 = true then (some (0, false)) else (if 0 ≤ (wrap64 (x0 - 1)) then (if (Go.bits .andNot .u64 x1 (shl .u64 1 (wrap64 (x0 - 1)))) > (IntKind.u64.wrap (x175003)) then (some (0, false)) else (if (Go.bits .and .u64 x1 (shl .u64 1 (wrap64 (x0 - 1)))) = 0 then (some (wrap64 (Go.bits .andNot .u64 x1 (shl .u64 1 (wrap64 (x0 - 1)))), true)) else (some (wrap64 (-(wrap64 (Go.bits .andNot .u64 x1 (shl .u64 1 (wrap64 (x0 - 1)))))), true)))) else (none))
def impl_BitOrd.f (k : Nat) (a0 : Int) (a1 : Int) : Option (Int × Bool) := (impl_formatOf.f a0).bind fun bt169 => (if bt169.2.2.2.2 = true then (if a0 = 32 then (impl_BitOrd.j0 k a0 a1 (decide (a1 ≥ 4294967296)) bt169.1 bt169.2.1 bt169.2.2.1 bt169.2.2.2.1) else (impl_BitOrd.j0 k a0 a1 false bt169.1 bt169.2.1 bt169.2.2.1 bt169.2.2.2.1)) else (impl_BitOrd.j0 k a0 a1 true bt169.1 bt169.2.1 bt169.2.2.1 bt169.2.2.2.1))
theorem impl_BitOrd.mono_l : ∀ k, (∀ y0 y1 y2 y3 y4 y5 y6, LeO (impl_BitOrd.j0 k y0 y1 y2 y3 y4 y5 y6) (impl_BitOrd.j0 (k + 1) y0 y1 y2 y3 y4 y5 y6))
  | 0 => fun _ _ _ _ _ _ _ r h => by simp [impl_BitOrd.j0] at h
  | k + 1 => by
    have ih0 := impl_BitOrd.mono_l k
    · intro y0 y1 y2 y3 y4 y5 y6
      unfold impl_BitOrd.j0
      repeat' first
      | (with_reducible exact ih0 _ _ _ _ _ _ _)
      | (with_reducible exact LeO.refl _)
      | (with_reducible exact LeO.none _)
      | (with_reducible refine LeO.ite ?_ ?_)
      | (with_reducible refine LeO.bind ?_ (fun _ => ?_))
      | exact ih0 _ _ _ _ _ _ _
      | exact LeO.none _
      | refine LeO.ite ?_ ?_
      | refine LeO.bind ?_ (fun _ => ?_)
theorem impl_BitOrd.mono : ∀ a0 a1 k, LeO (impl_BitOrd.f k a0 a1) (impl_BitOrd.f (k + 1) a0 a1) := by
  intro a0 a1 k
  have ih0 := impl_BitOrd.mono_l k
  unfold impl_BitOrd.f
  repeat' first
      | (with_reducible exact ih0 _ _ _ _ _ _ _)
      | (with_reducible exact LeO.refl _)
      | (with_reducible exact LeO.none _)
      | (with_reducible refine LeO.ite ?_ ?_)
      | (with_reducible refine LeO.bind ?_ (fun _ => ?_))
      | exact ih0 _ _ _ _ _ _ _
      | exact LeO.none _
      | refine LeO.ite ?_ ?_
      | refine LeO.bind ?_ (fun _ => ?_)
set_option maxHeartbeats 8000000 in
set_option maxRecDepth 100000 in
theorem impl_BitOrd.calls (k : Nat) (a0 : Int) (a1 : Int) (r1 : Int) (r2 : Bool) (w : World) (h : impl_BitOrd.f k a0 a1 = some (r1, r2)) :
    Calls Try.prog 62 #[.int .i64 a0, .int .u64 a1] w fun e w' => e = .returned (.tuple #[.int .i64 r1, .bool r2]) ∧ Below w.heap.size w w' := by
  have hu79 := Try.underlying79
  have HB := Aside0.mk (Below.refl w.heap.size w)
  have H : ((impl_formatOf.f a0).bind fun bt169 => (if bt169.2.2.2.2 = true then (if a0 = 32 then (impl_BitOrd.j0 k a0 a1 (decide (a1 ≥ 4294967296)) bt169.1 bt169.2.1 bt169.2.2.1 bt169.2.2.2.1) else (impl_BitOrd.j0 k a0 a1 false bt169.1 bt169.2.1 bt169.2.2.1 bt169.2.2.2.1)) else (impl_BitOrd.j0 k a0 a1 true bt169.1 bt169.2.1 bt169.2.2.1 bt169.2.2.2.1))) = some (r1, r2) := h
  clear h
  replace H := Option.bind_eq_some_iff.mp H
  obtain ⟨⟨t169, t170, t171, t172, t173⟩, A30, H⟩ := H
  replace H : (if t173 = true then (if a0 = 32 then (impl_BitOrd.j0 k a0 a1 (decide (a1 ≥ 4294967296)) t169 t170 t171 t172) else (impl_BitOrd.j0 k a0 a1 false t169 t170 t171 t172)) else (impl_BitOrd.j0 k a0 a1 true t169 t170 t171 t172)) = some (r1, r2) := H
  have A3 := Aside0.mk A30
  clear A30
  have HC4 := Aside0.mk H
  clear H
  go_enter Try.func62, Try.ntmps62
  go_upto_region 2 with (first | ((with_reducible refine gate_callee (f := 61) rfl ?_); refine goesL_ (some 12) rfl rfl Try.func61 (by kernel_rfl) rfl #[.int .i64 a0] rfl (by (try simp only [List.map_toArray, List.map_cons, List.map_nil]); first | done | rfl | (simp only [List.length_drop, List.length_take]; rfl)) ?_; (with_reducible refine (impl_formatOf.calls a0 t169 t170 t171 t172 t173 _ A3.out).mono ?_); rintro e w5 ⟨rfl, hb⟩; refine ⟨_, rfl, ?_⟩; have n0_ := Aside0.mk (below_step (by repeat (first | (with_reducible first | exact HB.out | apply below_alloc | apply pw_below_drewN | apply below_drew1) | exact HB.out)) hb); clear HB; have HB := n0_; clear n0_; (try clear hb); (try clear hb2); (try clear hk); (try clear hi)) | ((with_reducible refine gate_dst (N := 6) rfl ?_); refine box_event ?hg (N := 6) ?hd (cs := #[.int .i64 0, .int .i64 0, .int .i64 0, .int .i64 0]) (t := 79) ?hr ?_; (case hd => rfl); (case hg => rfl); (case hr => first | (go_simp; done) | (go_simp; rfl)); intro gb174 hg w6 hbox hb; have n0_ := Aside0.mk (below_step (by repeat (first | (with_reducible first | exact HB.out | apply below_alloc | apply pw_below_drewN | apply below_drew1) | exact HB.out)) hb); have n1_ := Aside0.mk (hbox); have n2_ := Aside0.mk ((by rw [hg]; exact (below_size (by repeat (first | (with_reducible first | exact HB.out | apply below_alloc | apply pw_below_drewN | apply below_drew1) | exact HB.out))) : w.heap.size ≤ gb174)); have n3_ := Aside0.mk ((by rw [hg]; exact (below_size (by repeat (first | (with_reducible first | exact HB.out | apply below_alloc | apply pw_below_drewN | apply below_drew1) | exact HB.out))) : w.heap.size ≤ gb174)); clear HB; have HB := n0_; have BK174 := n1_; have GW174 := n2_; have GE174 := n3_; clear n0_ n1_ n2_ n3_; clear hb hbox hg; have hcz7_0 : w6.cell? ⟨gb174, 0, none⟩ = some (.int .i64 0) := (blk_cell BK174.out 0).trans rfl; have hcz7_1 : w6.cell? ⟨gb174, 1, none⟩ = some (.int .i64 0) := (blk_cell BK174.out 1).trans rfl; have hcz7_2 : w6.cell? ⟨gb174, 2, none⟩ = some (.int .i64 0) := (blk_cell BK174.out 2).trans rfl; have hcz7_3 : w6.cell? ⟨gb174, 3, none⟩ = some (.int .i64 0) := (blk_cell BK174.out 3).trans rfl; have hfz7_0 := blk_frozen BK174.out 0; have hfz7_1 := blk_frozen BK174.out 1; have hfz7_2 := blk_frozen BK174.out 2; have hfz7_3 := blk_frozen BK174.out 3))
  (try simp only [Act.put, List.setIfInBounds_toArray, List.set_cons_zero, List.set_cons_succ])
  go_cut [24] (fun v24 wc => ∃ (kq : Nat) (x24_3 : Bool), v24 = .bool x24_3 ∧ Aside0 (impl_BitOrd.j0 kq a0 a1 x24_3 t169 t170 t171 t172 = some (r1, r2)) ∧ Aside0 (kq ≤ k) ∧ Aside0 (wc.heap[gb174]? = some (.cells #[.int .i64 t169, .int .i64 t170, .int .i64 t171, .int .i64 t172] 79 (0, 0))) ∧ Aside0 (Below w.heap.size w wc))
  case first =>
    have H := HC4.out
    clear HC4
    by_cases c8 : t173 = true
    · subst c8
      have H1 : (if a0 = 32 then (impl_BitOrd.j0 k a0 a1 (decide (a1 ≥ 4294967296)) t169 t170 t171 t172) else (impl_BitOrd.j0 k a0 a1 false t169 t170 t171 t172)) = some (r1, r2) := by rw [if_pos rfl] at H; exact H
      clear H
      have H := H1
      clear H1
      by_cases c9 : a0 = 32
      · rw [if_pos c9] at H
        have c9b0 : (a0 == 32) = true := beq_iff_eq.mpr c9
        have c9b1 : (a0 != 32) = false := bne_eq_false_iff_eq.mpr c9
        clear c9
        (first | rw [c9b0] | (simp only [i64_w, i32_w]; rw [c9b0]) | skip)
        have H' := Aside0.mk H
        clear H
        go_wp2
        go_meet
        case rel => exact ⟨_, (decide (a1 ≥ 4294967296)), (by first | rfl | (simp; done) | (simp [*]; done)), H', ⟨by first | omega | exact Nat.le_refl _⟩, ⟨by (with_reducible repeat (first | refine blk_drewN ?_ _ | refine blk_drew ?_ | refine blk_alloc ?_ _)); refine blk_put (cs := #[.int .i64 t169, .int .i64 t170, .int .i64 t171, .int .i64 0]) ?_ 3 _ (by first | rfl | (simp [*]; done)); (with_reducible repeat (first | refine blk_drewN ?_ _ | refine blk_drew ?_ | refine blk_alloc ?_ _)); refine blk_put (cs := #[.int .i64 t169, .int .i64 t170, .int .i64 0, .int .i64 0]) ?_ 2 _ (by first | rfl | (simp [*]; done)); (with_reducible repeat (first | refine blk_drewN ?_ _ | refine blk_drew ?_ | refine blk_alloc ?_ _)); refine blk_put (cs := #[.int .i64 t169, .int .i64 0, .int .i64 0, .int .i64 0]) ?_ 1 _ (by first | rfl | (simp [*]; done)); (with_reducible repeat (first | refine blk_drewN ?_ _ | refine blk_drew ?_ | refine blk_alloc ?_ _)); refine blk_put (cs := #[.int .i64 0, .int .i64 0, .int .i64 0, .int .i64 0]) ?_ 0 _ (by first | rfl | (simp [*]; done)); (with_reducible repeat (first | refine blk_drewN ?_ _ | refine blk_drew ?_ | refine blk_alloc ?_ _)); exact BK174.out⟩, ⟨by repeat (first | (with_reducible first | exact HB.out | apply below_alloc | apply pw_below_drewN | apply below_drew1 | refine below_set ?_ GE174.out) | exact HB.out)⟩⟩
      · rw [if_neg c9] at H
        have c9b0 : (a0 == 32) = false := beq_eq_false_iff_ne.mpr c9
        have c9b1 : (a0 != 32) = true := bne_iff_ne.mpr c9
        (first | rw [c9b0] | (simp only [i64_w, i32_w]; rw [c9b0]) | skip)
        have H' := Aside0.mk H
        clear H
        go_wp2
        go_meet
        case rel => exact ⟨_, (false), (by first | rfl | (simp; done) | (simp [*]; done)), H', ⟨by first | omega | exact Nat.le_refl _⟩, ⟨by (with_reducible repeat (first | refine blk_drewN ?_ _ | refine blk_drew ?_ | refine blk_alloc ?_ _)); refine blk_put (cs := #[.int .i64 t169, .int .i64 t170, .int .i64 t171, .int .i64 0]) ?_ 3 _ (by first | rfl | (simp [*]; done)); (with_reducible repeat (first | refine blk_drewN ?_ _ | refine blk_drew ?_ | refine blk_alloc ?_ _)); refine blk_put (cs := #[.int .i64 t169, .int .i64 t170, .int .i64 0, .int .i64 0]) ?_ 2 _ (by first | rfl | (simp [*]; done)); (with_reducible repeat (first | refine blk_drewN ?_ _ | refine blk_drew ?_ | refine blk_alloc ?_ _)); refine blk_put (cs := #[.int .i64 t169, .int .i64 0, .int .i64 0, .int .i64 0]) ?_ 1 _ (by first | rfl | (simp [*]; done)); (with_reducible repeat (first | refine blk_drewN ?_ _ | refine blk_drew ?_ | refine blk_alloc ?_ _)); refine blk_put (cs := #[.int .i64 0, .int .i64 0, .int .i64 0, .int .i64 0]) ?_ 0 _ (by first | rfl | (simp [*]; done)); (with_reducible repeat (first | refine blk_drewN ?_ _ | refine blk_drew ?_ | refine blk_alloc ?_ _)); exact BK174.out⟩, ⟨by repeat (first | (with_reducible first | exact HB.out | apply below_alloc | apply pw_below_drewN | apply below_drew1 | refine below_set ?_ GE174.out) | exact HB.out)⟩⟩
    · replace c8 := Bool.eq_false_iff.mpr c8
      subst c8
      have H1 : (impl_BitOrd.j0 k a0 a1 true t169 t170 t171 t172) = some (r1, r2) := by rw [if_neg (show ¬ (false = true) by decide)] at H; exact H
      clear H
      have H := H1
      clear H1
      have H' := Aside0.mk H
      clear H
      go_wp2
      go_meet
      case rel => exact ⟨_, (true), (by first | rfl | (simp; done) | (simp [*]; done)), H', ⟨by first | omega | exact Nat.le_refl _⟩, ⟨by (with_reducible repeat (first | refine blk_drewN ?_ _ | refine blk_drew ?_ | refine blk_alloc ?_ _)); refine blk_put (cs := #[.int .i64 t169, .int .i64 t170, .int .i64 t171, .int .i64 0]) ?_ 3 _ (by first | rfl | (simp [*]; done)); (with_reducible repeat (first | refine blk_drewN ?_ _ | refine blk_drew ?_ | refine blk_alloc ?_ _)); refine blk_put (cs := #[.int .i64 t169, .int .i64 t170, .int .i64 0, .int .i64 0]) ?_ 2 _ (by first | rfl | (simp [*]; done)); (with_reducible repeat (first | refine blk_drewN ?_ _ | refine blk_drew ?_ | refine blk_alloc ?_ _)); refine blk_put (cs := #[.int .i64 t169, .int .i64 0, .int .i64 0, .int .i64 0]) ?_ 1 _ (by first | rfl | (simp [*]; done)); (with_reducible repeat (first | refine blk_drewN ?_ _ | refine blk_drew ?_ | refine blk_alloc ?_ _)); refine blk_put (cs := #[.int .i64 0, .int .i64 0, .int .i64 0, .int .i64 0]) ?_ 0 _ (by first | rfl | (simp [*]; done)); (with_reducible repeat (first | refine blk_drewN ?_ _ | refine blk_drew ?_ | refine blk_alloc ?_ _)); exact BK174.out⟩, ⟨by repeat (first | (with_reducible first | exact HB.out | apply below_alloc | apply pw_below_drewN | apply below_drew1 | refine below_set ?_ GE174.out) | exact HB.out)⟩⟩
  case rest =>
    clear HC4
    try clear p2
    try clear c6
    try clear c8
    try clear c9
    try clear c9b0
    try clear c9b1
    try clear hcz7_0
    try clear hcz7_1
    try clear hcz7_2
    try clear hcz7_3
    try clear hfz7_0
    try clear hfz7_1
    try clear hfz7_2
    try clear hfz7_3
    obtain ⟨kq, x24_3, rfl, HA, HJ3, BK174, HB⟩ := hcut
    cases kq with
    | zero => exact absurd HA.out (by simp [impl_BitOrd.j0])
    | succ kj3 =>
      have H := HA.out
      clear HA
      simp only [impl_BitOrd.j0] at H
      by_cases c10 : x24_3 = true
      · subst c10
        have H1 : (some (0, false)) = some (r1, r2) := by rw [if_pos rfl] at H; exact H
        clear H
        have H := H1
        clear H1
        simp only [Option.some.injEq, Prod.mk.injEq] at H
        obtain ⟨rfl, rfl⟩ := H
        go_wp2
        go_ret2
        exact ⟨by first | rfl | (simp [errW_none, errW_some] <;> rfl) | (simp [*, errW_none, errW_some] <;> rfl), by repeat (first | (with_reducible first | exact HB.out | apply below_alloc | apply pw_below_drewN | apply below_drew1 | refine below_set ?_ GE174.out) | exact HB.out)⟩
      · replace c10 := Bool.eq_false_iff.mpr c10
        subst c10
        have H1 : (if 0 ≤ (wrap64 (a0 - 1)) then (if (Go.bits .andNot .u64 a1 (shl .u64 1 (wrap64 (a0 - 1)))) > (IntKind.u64.wrap (t172)) then (some (0, false)) else (if (Go.bits .and .u64 a1 (shl .u64 1 (wrap64 (a0 - 1)))) = 0 then (some (wrap64 (Go.bits .andNot .u64 a1 (shl .u64 1 (wrap64 (a0 - 1)))), true)) else (some (wrap64 (-(wrap64 (Go.bits .andNot .u64 a1 (shl .u64 1 (wrap64 (a0 - 1)))))), true)))) else (none)) = some (r1, r2) := by rw [if_neg (show ¬ (false = true) by decide)] at H; exact H
        clear H
        have H := H1
        clear H1
        obtain ⟨ji11, hji11⟩ : ∃ j_ : Int, (wrap64 (a0 - 1)) = j_ := ⟨_, rfl⟩
        replace H : (if 0 ≤ (ji11) then (if (Go.bits .andNot .u64 a1 (shl .u64 1 (ji11))) > (IntKind.u64.wrap (t172)) then (some (0, false)) else (if (Go.bits .and .u64 a1 (shl .u64 1 (ji11))) = 0 then (some (wrap64 (Go.bits .andNot .u64 a1 (shl .u64 1 (ji11))), true)) else (some (wrap64 (-(wrap64 (Go.bits .andNot .u64 a1 (shl .u64 1 (ji11))))), true)))) else (none)) = some (r1, r2) := by first | (rw [hji11] at H; exact H) | (simp only [hji11] at H ⊢; exact H)
        have hji11w : (IntKind.i64.wrap (a0 - 1)) = ji11 := (i64_w _).trans hji11
        by_cases c12 : 0 ≤ (ji11)
        · rw [if_pos c12] at H
          have c12b0 := eq_true c12
          have c12b1 : decide (0 ≤ (ji11)) = true := decide_eq_true c12
          clear c12
          obtain ⟨ji13, hji13⟩ : ∃ j_ : Int, (shl .u64 1 (ji11)) = j_ := ⟨_, rfl⟩
          replace H : (if (Go.bits .andNot .u64 a1 (ji13)) > (IntKind.u64.wrap (t172)) then (some (0, false)) else (if (Go.bits .and .u64 a1 (ji13)) = 0 then (some (wrap64 (Go.bits .andNot .u64 a1 (ji13)), true)) else (some (wrap64 (-(wrap64 (Go.bits .andNot .u64 a1 (ji13)))), true)))) = some (r1, r2) := by first | (rw [hji13] at H; exact H) | (simp only [hji13] at H ⊢; exact H)
          have hji13_ : (IntKind.u64.wrap (1 * 2 ^ min (ji11).toNat 64)) = ji13 := hji13
          have hji13z : (ji11) ≤ 64 → (IntKind.u64.wrap (1 * 2 ^ (ji11).toNat)) = ji13 := shl_small hji13
          have hji13u : (IntKind.u64.wrap (2 ^ min (ji11).toNat 64)) = ji13 := by have h_ := hji13_; rw [Int.one_mul] at h_; exact h_
          have hji13v : (ji11) ≤ 64 → (IntKind.u64.wrap (2 ^ (ji11).toNat)) = ji13 := fun hle_ => by have h_ := hji13z hle_; rw [Int.one_mul] at h_; exact h_
          by_cases c14 : (Go.bits .andNot .u64 a1 (ji13)) > (IntKind.u64.wrap (t172))
          · rw [if_pos c14] at H
            have c14b0 : decide ((IntKind.u64.wrap (t172)) < (Go.bits .andNot .u64 a1 (ji13))) = true := decide_eq_true c14
            clear c14
            simp only [Option.some.injEq, Prod.mk.injEq] at H
            obtain ⟨rfl, rfl⟩ := H
            have hcz15_0 : wc.cell? ⟨gb174, 0, none⟩ = some (.int .i64 t169) := (blk_cell BK174.out 0).trans rfl
            have hcz15_1 : wc.cell? ⟨gb174, 1, none⟩ = some (.int .i64 t170) := (blk_cell BK174.out 1).trans rfl
            have hcz15_2 : wc.cell? ⟨gb174, 2, none⟩ = some (.int .i64 t171) := (blk_cell BK174.out 2).trans rfl
            have hcz15_3 : wc.cell? ⟨gb174, 3, none⟩ = some (.int .i64 t172) := (blk_cell BK174.out 3).trans rfl
            have hfz15_0 := blk_frozen BK174.out 0
            have hfz15_1 := blk_frozen BK174.out 1
            have hfz15_2 := blk_frozen BK174.out 2
            have hfz15_3 := blk_frozen BK174.out 3
            go_wp2
            go_ret2
            exact ⟨by first | rfl | (simp [errW_none, errW_some] <;> rfl) | (simp only [← hji11, ← hji13]; first | rfl | (simp [errW_none, errW_some] <;> rfl)) | (simp [*, errW_none, errW_some] <;> rfl), by repeat (first | (with_reducible first | exact HB.out | apply below_alloc | apply pw_below_drewN | apply below_drew1 | refine below_set ?_ GE174.out) | exact HB.out)⟩
          · rw [if_neg c14] at H
            have c14b0 : decide ((IntKind.u64.wrap (t172)) < (Go.bits .andNot .u64 a1 (ji13))) = false := decide_eq_false c14
            clear c14
            by_cases c16 : (Go.bits .and .u64 a1 (ji13)) = 0
            · rw [if_pos c16] at H
              have c16b0 : ((Go.bits .and .u64 a1 (ji13)) == 0) = true := beq_iff_eq.mpr c16
              have c16b1 : ((Go.bits .and .u64 a1 (ji13)) != 0) = false := bne_eq_false_iff_eq.mpr c16
              clear c16
              simp only [Option.some.injEq, Prod.mk.injEq] at H
              obtain ⟨rfl, rfl⟩ := H
              have hcz17_0 : wc.cell? ⟨gb174, 0, none⟩ = some (.int .i64 t169) := (blk_cell BK174.out 0).trans rfl
              have hcz17_1 : wc.cell? ⟨gb174, 1, none⟩ = some (.int .i64 t170) := (blk_cell BK174.out 1).trans rfl
              have hcz17_2 : wc.cell? ⟨gb174, 2, none⟩ = some (.int .i64 t171) := (blk_cell BK174.out 2).trans rfl
              have hcz17_3 : wc.cell? ⟨gb174, 3, none⟩ = some (.int .i64 t172) := (blk_cell BK174.out 3).trans rfl
              have hfz17_0 := blk_frozen BK174.out 0
              have hfz17_1 := blk_frozen BK174.out 1
              have hfz17_2 := blk_frozen BK174.out 2
              have hfz17_3 := blk_frozen BK174.out 3
              go_wp2
              go_ret2
              exact ⟨by first | rfl | (simp [errW_none, errW_some] <;> rfl) | (simp only [← hji11, ← hji13]; first | rfl | (simp [errW_none, errW_some] <;> rfl)) | (simp [*, errW_none, errW_some] <;> rfl), by repeat (first | (with_reducible first | exact HB.out | apply below_alloc | apply pw_below_drewN | apply below_drew1 | refine below_set ?_ GE174.out) | exact HB.out)⟩
            · rw [if_neg c16] at H
              have c16b0 : ((Go.bits .and .u64 a1 (ji13)) == 0) = false := beq_eq_false_iff_ne.mpr c16
              have c16b1 : ((Go.bits .and .u64 a1 (ji13)) != 0) = true := bne_iff_ne.mpr c16
              simp only [Option.some.injEq, Prod.mk.injEq] at H
              obtain ⟨rfl, rfl⟩ := H
              have hcz18_0 : wc.cell? ⟨gb174, 0, none⟩ = some (.int .i64 t169) := (blk_cell BK174.out 0).trans rfl
              have hcz18_1 : wc.cell? ⟨gb174, 1, none⟩ = some (.int .i64 t170) := (blk_cell BK174.out 1).trans rfl
              have hcz18_2 : wc.cell? ⟨gb174, 2, none⟩ = some (.int .i64 t171) := (blk_cell BK174.out 2).trans rfl
              have hcz18_3 : wc.cell? ⟨gb174, 3, none⟩ = some (.int .i64 t172) := (blk_cell BK174.out 3).trans rfl
              have hfz18_0 := blk_frozen BK174.out 0
              have hfz18_1 := blk_frozen BK174.out 1
              have hfz18_2 := blk_frozen BK174.out 2
              have hfz18_3 := blk_frozen BK174.out 3
              go_wp2
              go_ret2
              exact ⟨by first | rfl | (simp [errW_none, errW_some] <;> rfl) | (simp only [← hji11, ← hji13]; first | rfl | (simp [errW_none, errW_some] <;> rfl)) | (simp [*, errW_none, errW_some] <;> rfl), by repeat (first | (with_reducible first | exact HB.out | apply below_alloc | apply pw_below_drewN | apply below_drew1 | refine below_set ?_ GE174.out) | exact HB.out)⟩
        · rw [if_neg c12] at H
          exact absurd H (by simp)

end Go.Proofs.Ytlnihglcneaonaa.QFnExactBoxOf
