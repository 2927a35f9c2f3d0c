/- slices.Backward over a slice of ints, and the function that reads a number below 2^64 by it: walked once. Conditions: the slice's cells are given; the slice is within the reach. -/
import Derived.RangeFuncBox
import Derived.RangeFuncLeaves
import Derived.Shelf.Abstract
import Derived.WalkKit
import Derived.OwnWalkIn
import Derived.TacticsInMore
import Derived.LoopNIn
import Derived.LoopIn
import Derived.Deep.Draws
import Derived.Test.YtaachpcidikagaaProg
namespace Go.Proofs.Ytaachpcidikagaa.SBack
open Go Go.Proofs Go.RowKit Go.Shelf
attribute [local go_sem] Oper.semAt_some
/-- A fact that the walk is not to use. -/
structure At (p : Prop) : Prop where
  out : p
/-- What has come when k rounds are over. -/
def upto {α : Type} (f : Nat → α) (k : Nat) : List α := (List.range k).map f
theorem upto_succ {α : Type} (f : Nat → α) (k : Nat) : upto f (k + 1) = upto f k ++ [f k] := by simp [upto, List.range_succ]
theorem upto_length {α : Type} (f : Nat → α) (k : Nat) : (upto f k).length = k := by simp [upto]
/-- The k-th pair from behind: its place and what stands there. -/
def nth (zs : List Int) (k : Nat) : Int × Int := (((zs.length - 1 - k : Nat) : Int), zs[zs.length - 1 - k]?.getD 0)
/-- What a round keeps: all that lay, and the box of the slice. -/
def Kp2 (n₀ Bs : Nat) (A B : World) : Prop := Below n₀ A B ∧ B.cell? ⟨Bs, 0, none⟩ = A.cell? ⟨Bs, 0, none⟩
theorem Kp2.t {n₀ Bs : Nat} {A B C : World} (h : Kp2 n₀ Bs A B) (k : Kp2 n₀ Bs B C) : Kp2 n₀ Bs A C := ⟨h.1.trans k.1, k.2.trans h.2⟩
theorem Kp2.b {n₀ Bs : Nat} {w : World} (hn : n₀ ≤ w.heap.size) (hb : Bs < w.heap.size) (W : World) (l : Nat) (o o' : Obj) (hl : w.heap.size ≤ l) (h : W.heap[l]? = some o) (h1 : o.isCells = false) (h2 : o.isWalk = false) : Kp2 n₀ Bs W (W.putObj l o') :=
  ⟨belowK_b hn W l o o' hl h h1 h2, (belowK_b (n₀ := Bs + 1) (by omega) W l o o' hl h h1 h2).cell (p := ⟨Bs, 0, none⟩) (by simp)⟩
set_option maxRecDepth 100000 in
set_option maxHeartbeats 2000000 in
theorem back1_in (F : Fence) (n : Nat) (hF : F.fn 78) (hro : F.round = none) (hn : 1 ≤ n) (l Bs n₀ : Nat) (a : Option Addr) (cap : Nat) (zs : List Int) (hreach : zs.length * 8 ≤ 140737488351232) (J Jx : List (Int × Int) → World → Prop)
    (hY : ∀ pre x W, J pre W → pre.length < zs.length → YieldAt F (n - 1) Try.prog l #[.int .i64 x.1, .int .i64 x.2] W fun e W' =>
      (e = .returned (.bool true) ∧ J (pre ++ [x]) W' ∧ Kp2 n₀ Bs W W') ∨ (e = .returned (.bool false) ∧ Jx (pre ++ [x]) W'))
    (W : World) (hBs : W.cell? ⟨Bs, 0, none⟩ = some (.slice a zs.length cap)) (hc : ∀ j, j < zs.length → ∃ ad : Addr, a = some ad ∧ (ad.add j).block < n₀ ∧ W.cell? (ad.add j) = some (.int .i64 (zs[j]?.getD 0))) (h0 : J [] W) :
    CallsIn F n Try.prog 78 #[.func (.yield l) #[] #[], .pointer (some ⟨Bs, 0, none⟩)] W fun e W' => (∃ v, e = .returned v) ∧
      ((∃ ys, ys = upto (nth zs) zs.length ∧ J ys W') ∨ (∃ pre, (∃ k, k ≤ zs.length ∧ pre = upto (nth zs) k) ∧ Jx pre W')) := by
  have e1 : wrap64 ((zs.length : Int) - 1) = (zs.length : Int) - 1 := by unfold wrap64; omega
  refine callsIn_of_wp Try.func78 rfl hF ?_ hro
  simp only [Try.ntmps78, List.size_toArray, List.length_cons, List.length_nil, Nat.reduceAdd, Nat.reduceSub, Array.replicate_succ, Array.replicate_zero, List.push_toArray, List.append_toArray, List.nil_append, List.cons_append]
  gi_wp2
  gi_loopw [3] (fun i wr => ∃ j k : Nat, j + k = zs.length ∧ i = .int .i64 ((j : Int) - 1) ∧ J (upto (nth zs) k) wr ∧ Kp2 n₀ Bs W wr)
    (fun i _ => (intOf i + 1).toNat)
  case atStart => exact ⟨zs.length, 0, by omega, by first | rfl | (rw [e1]) | simp [e1], h0, Below.refl _ _, rfl⟩
  case round =>
    obtain ⟨j, k, hk, rfl, hJs, hnx⟩ := hrel
    have hBx := hnx.2.trans hBs
    cases j with
    | zero =>
      obtain rfl : k = zs.length := by omega
      have e0 : ((0 : Nat) : Int) - 1 = -1 := rfl
      rw [e0]
      gi_wp2
      go_end0
      exact ⟨⟨_, rfl⟩, .inl ⟨_, rfl, hJs⟩⟩
    | succ j =>
      have hlt : j < zs.length := by omega
      obtain ⟨ad, rfl, hb, hcell⟩ := hc j hlt
      have hcx : wr.cell? (ad.add j) = some (.int .i64 (zs[j]?.getD 0)) := (hnx.1.cell (p := ad.add j) hb).trans hcell
      have hn1 : nth zs k = ((j : Int), zs[j]?.getD 0) := by
        unfold nth; rw [show zs.length - 1 - k = j by omega]
      have ej : ((j + 1 : Nat) : Int) - 1 = (j : Int) := by omega
      have ew : wrap64 ((j : Int) - 1) = (j : Int) - 1 := by unfold wrap64; omega
      obtain ⟨z, hz⟩ : ∃ z, z = zs[j]?.getD 0 := ⟨_, rfl⟩
      rw [← hz] at hcx hn1
      clear hz
      rw [ej]
      obtain ⟨fn, tmps, assign, body, hy, hR⟩ := hY _ ((j : Int), z) wr hJs (by rw [upto_length]; omega)
      dsimp only at hy
      clear hc hcell
      have HN := At.mk hn1
      have HK := At.mk hk
      clear hn1 hk
      gi_wp2
      refine hR.mono ?_
      rintro e W3 (⟨rfl, hJ3, hk3⟩ | ⟨rfl, hJx3⟩)
      · have hB3 := hk3.2.trans hBx
        gi_wp2
        go_roundw
        case rel => exact ⟨j, k + 1, by have := HK.out; omega, by first | rfl | (rw [ew]) | simp [ew], by rw [upto_succ, HN.out]; exact hJ3, hnx.t hk3⟩
        case measure => simp [intOf]
      · gi_wp2
        refine bodyPost_ret (results_none rfl _ _ _) rfl ?_
        exact ⟨⟨_, rfl⟩, .inr ⟨_, ⟨k + 1, by have := HK.out; omega, by rw [upto_succ, HN.out]⟩, hJx3⟩⟩
set_option maxHeartbeats 1000000 in
theorem back_in (F : Fence) (n : Nat) (hF : F.fn 51) (hro : F.round = none) (a : Option Addr) (len cap : Nat) (w : World) :
    CallsIn F n Try.prog 51 #[.slice a len cap] w fun e w' => e = .returned (.func (.func 78) #[] #[.pointer (some ⟨w.heap.size, 0, none⟩)]) ∧ w' = w.alloc (.cells #[.slice a len cap] 22) := by
  refine callsIn_of_wp Try.func51 rfl hF ?_ hro
  simp only [Try.ntmps51, List.size_toArray, List.length_cons, List.length_nil, Nat.reduceAdd, Nat.reduceSub, Array.replicate_succ, Array.replicate_zero, List.push_toArray, List.append_toArray, List.nil_append, List.cons_append]
  gi_wp2
  go_ret
  exact ⟨rfl, rfl⟩
theorem back_stops (F : Fence) (n : Nat) (hF : F.fn 78) (hro : F.round = none) (hn : 1 ≤ n) (Bs n₀ : Nat) (a : Option Addr) (cap : Nat) (zs : List Int) (hreach : zs.length * 8 ≤ 140737488351232) (w : World) (hBs : Bs < w.heap.size) (hn₀ : n₀ ≤ w.heap.size)
    (hc : w.cell? ⟨Bs, 0, none⟩ = some (.slice a zs.length cap)) (hI : ∀ j, j < zs.length → ∃ ad : Addr, a = some ad ∧ (ad.add j).block < n₀ ∧ w.cell? (ad.add j) = some (.int .i64 (zs[j]?.getD 0))) :
    SeqStopsK F n Try.prog 78 #[.pointer (some ⟨Bs, 0, none⟩)] (fun x : Int × Int => #[Value.int .i64 x.1, Value.int .i64 x.2]) (Kp2 n₀ Bs) (fun ys => ys = upto (nth zs) zs.length)
      (fun pre => ∃ k, k ≤ zs.length ∧ pre = upto (nth zs) k) zs.length w := fun l J Jx W hW _ _ hY h0 => by
  have hc' := (hW.cell (p := ⟨Bs, 0, none⟩) hBs).trans hc
  refine back1_in F n hF hro hn l Bs n₀ a cap zs hreach J Jx hY W hc' (fun j hj => ?_) h0
  obtain ⟨ad, e, hb, h⟩ := hI j hj
  exact ⟨ad, e, hb, (hW.cell (p := ad.add j) (Nat.lt_of_lt_of_le hb hn₀)).trans h⟩
/-- One digit more, behind. -/
def step (n d : Int) : Int := Go.bits .or .u64 (IntKind.u64.wrap (n * 65536)) (IntKind.u64.wrap d)
def many (xs : List (Int × Int)) : Int := xs.foldl (fun n x => step n x.2) 0
theorem many_snoc (pre : List (Int × Int)) (x : Int × Int) : many (pre ++ [x]) = step (many pre) x.2 := by simp [many]
/-- The number below 2^64 that digits are. -/
def small (zs : List Int) : Int := many (upto (nth zs) zs.length)
set_option maxRecDepth 100000 in
set_option maxHeartbeats 4000000 in
theorem small_in (a : Option Addr) (cap : Nat) (zs : List Int) (hlen : zs.length ≤ 4) (w : World) (hI : ∀ j, j < zs.length → ∃ ad : Addr, a = some ad ∧ (ad.add j).block < w.heap.size ∧ w.cell? (ad.add j) = some (.int .i64 (zs[j]?.getD 0)))
    (hok : Calls Try.prog 17 #[.slice a zs.length cap] w fun e w' => e = .returned (.bool true) ∧ Below w.heap.size w w') :
    Calls Try.prog 24 #[.slice a zs.length cap] w fun e W' => e = .returned (.tuple #[.int .u64 (small zs), .bool true]) ∧ Below w.heap.size w W' := by
  refine (callsIn_wide (n := 3)).1 ?_
  have hro : Fence.wide.round = none := rfl
  have hd : decide ((zs.length : Int) > 4) = false := decide_eq_false (by omega)
  have hd2 : decide (4 < zs.length) = false := decide_eq_false (by omega)
  have HI := At.mk hI
  have HL := At.mk hlen
  have HO := At.mk hok
  clear hI hok hlen
  refine callsIn_of_wp_marks Try.func24 rfl trivial ?_ hro
  simp only [Try.ntmps24, List.size_toArray, List.length_cons, List.length_nil, Nat.reduceAdd, Nat.reduceSub, Array.replicate_succ, Array.replicate_zero, List.push_toArray, List.append_toArray, List.nil_append, List.cons_append]
  gi_wp2_with (first | (refine ⟨trivial, ?_⟩; gi_at_call 17; refine (callsIn_wide.2 HO.out).mono ?_; rintro e w1 ⟨rfl, hb⟩; have HB1 := At.mk hb; clear hb) | (refine ⟨trivial, ?_⟩; gi_at_call 51; refine (back_in Fence.wide _ trivial rfl _ _ _ _).mono ?_; rintro e w' ⟨rfl, rfl⟩))
  have hreach : zs.length * 8 ≤ 140737488351232 := by have := HL.out; omega
  have HR := At.mk hreach
  clear hreach hd hd2
  have bS := Boxed.new w1 26 (.int .u64 0)
  have bN := Boxed.new (w1.alloc (.cells #[.int .u64 0] 26)) 22 (.slice a zs.length cap)
  rw [World.size_alloc] at bN
  have hB0 : Below w1.heap.size w1 ((w1.alloc (.cells #[.int .u64 0] 26)).alloc (.cells #[.slice a zs.length cap] 22)) := ((Below.refl _ w1).alloc (Nat.le_refl _) _).alloc (by simp) _
  have hI1 : ∀ j, j < zs.length → ∃ ad : Addr, a = some ad ∧ (ad.add j).block < w1.heap.size ∧ ((w1.alloc (.cells #[.int .u64 0] 26)).alloc (.cells #[.slice a zs.length cap] 22)).cell? (ad.add j) = some (.int .i64 (zs[j]?.getD 0)) := fun j hj => by
    obtain ⟨ad, e, hb, h⟩ := HI.out j hj
    have hs := HB1.out.size
    exact ⟨ad, e, by omega, (hB0.cell (p := ad.add j) (by omega)).trans ((HB1.out.cell (p := ad.add j) hb).trans h)⟩
  refine wpIn_rangeFunc_ownG hro (by omega) (gf := 78) (lb := #[.pointer (some ⟨w1.heap.size + 1, 0, none⟩)]) rfl trivial (enters_of Try.func78 (by kernel_rfl) rfl)
    (back_stops Fence.wide _ trivial rfl (by omega) (w1.heap.size + 1) w1.heap.size a cap zs HR.out _ (by simp) (by simp; omega) bN.cell hI1) Kp2.t (Kp2.b (by simp; omega) (by simp)) (Below.refl _ _) (fun _ => rfl)
    (fun pre W => (W.cell? ⟨w1.heap.size, 0, none⟩ = some (.int .u64 (many pre)) ∧ W.frozen? ⟨w1.heap.size, 0, none⟩ = false) ∧ Below w1.heap.size w1 W)
    (fun _ _ _ => False)
    (OwnFrom.and (Own.from (fun s A B row hs hg hr => ⟨cell_kept hs.1 hg hr, (frozen_kept hs.1 hg hr).trans hs.2⟩) _) (ownFrom_below (Nat.le_refl _) (by simp; omega)))
    (fun _ _ _ _ _ hs _ _ => hs)
    ⟨⟨(bS.alloc _).cell, (bS.alloc _).frozen⟩, hB0⟩
    (fun x => { tmps := #[.slice a zs.length cap, undef, .int .u64 0, .bool false, .pointer (some ⟨w1.heap.size, 0, none⟩), undef, .int .i64 x.2, .slice a zs.length cap, .bool true, .bool false, .bool false, .slice a zs.length cap, .int .i64 (zs.length : Int), .bool false, .bool false, .slice a zs.length cap, .func (.func 78) #[] #[.pointer (some ⟨w1.heap.size + 1, 0, none⟩)], .int .i64 x.1, .int .i64 x.2, undef, undef, undef, undef, undef, undef], defers := [] }) ?assign ?body ?done ?stop
  case assign =>
    intro l x W K hK
    gi_wp2
    exact hK
  case body =>
    rintro l pre x W ⟨⟨hc, hf⟩, hB⟩ _
    gi_wp2
    exact ⟨(KeepsOthers.setCell _ _ _).from _, ⟨(Below.refl w1.heap.size W).setCell (p := ⟨w1.heap.size, 0, none⟩) (Nat.le_refl _) _, World.cell?_setCell_other W ⟨w1.heap.size, 0, none⟩ ⟨w1.heap.size + 1, 0, none⟩ _ (by intro e; injection e with e; omega)⟩, ⟨by rw [many_snoc]; exact World.cell?_setCell_same' _ _ _ (by rw [hc]; rfl), by rw [World.frozen?_setCell]; exact hf⟩, hB.setCell (p := ⟨w1.heap.size, 0, none⟩) (Nat.le_refl _) _⟩
  case done =>
    rintro D ys W hD rfl ⟨⟨hc, hf⟩, hB⟩ hK
    gi_wp2
    refine ⟨by simp, .inl ⟨_, _, rfl, run_takeDeferred hK, ?_⟩⟩
    exact ⟨_, by simp [results, Try.f24, go_sem]; rfl, rfl, HB1.out.trans ((hB.trans (belowK_b (w := w1) (Nat.le_refl _) W D _ _ (by simp at hD; omega) hK rfl rfl)).mono HB1.out.size)⟩
  case stop =>
    rintro D c pre W _ _ h _
    exact h.elim
set_option maxRecDepth 100000 in
set_option maxHeartbeats 4000000 in
theorem small_no (a : Option Addr) (len cap : Nat) (b : Bool) (w : World) (hb : b = false ∨ 4 < len)
    (hok : Calls Try.prog 17 #[.slice a len cap] w fun e w' => e = .returned (.bool b) ∧ Below w.heap.size w w') :
    Calls Try.prog 24 #[.slice a len cap] w fun e W' => e = .returned (.tuple #[.int .u64 0, .bool false]) ∧ Below w.heap.size w W' := by
  have HO := At.mk hok
  clear hok
  cases b with
  | false =>
    clear hb
    go_enter Try.func24, Try.ntmps24
    go_wp2_with (go_at_call 17; refine HO.out.mono ?_; rintro e w1 ⟨rfl, hb⟩; have HB1 := At.mk hb; clear hb)
    go_ret2
    exact ⟨rfl, HB1.out⟩
  | true =>
    have h4 : 4 < len := hb.resolve_left (by decide)
    have hd : decide ((len : Int) > 4) = true := decide_eq_true (by omega)
    have hd2 : decide (4 < len) = true := decide_eq_true h4
    clear hb h4
    go_enter Try.func24, Try.ntmps24
    go_wp2_with (go_at_call 17; refine HO.out.mono ?_; rintro e w1 ⟨rfl, hb⟩; have HB1 := At.mk hb; clear hb)
    go_ret2
    exact ⟨rfl, HB1.out⟩
end Go.Proofs.Ytaachpcidikagaa.SBack
