/- The library's TrailingZeros64, walked once over its table: how often two divides a word. Condition: the table's cells hold what the program's text lays. -/
import Derived.Test.YtkpholdkijlogaaDoorProg
import Derived.Lib.Strings
import Derived.Lib.Slices
import Derived.Lib.Small
import Derived.Lib.Walk
import Derived.Deep.Draws
import Derived.Below
import Derived.Laws.BitsAllLaws
import Derived.LaidMore
import Derived.Lib.LaidTab
namespace Go.Proofs.YtkpholdkijlogaaDoor.STz
open Go Go.Proofs Go.RowKit
theorem u64w (n : Int) : IntKind.u64.wrap n = n % 18446744073709551616 := by
  simp [IntKind.wrap, IntKind.signed, IntKind.bits]
/-- A fact that the walk is not to use. -/
structure At (p : Prop) : Prop where
  out : p
/-- The table. -/
def zs : List Int := [0, 1, 56, 2, 57, 49, 28, 3, 61, 58, 42, 50, 38, 29, 17, 4, 62, 47, 59, 36, 45, 43, 51, 22, 53, 39, 33, 30, 24, 18, 12, 5, 63, 55, 48, 27, 60, 41, 37, 16, 46, 35, 44, 21, 52, 32, 23, 11, 54, 26, 40, 15, 34, 20, 31, 10, 25, 14, 19, 9, 13, 8, 7, 6]
/-- The table stands in memory. -/
def Tab (w : World) : Prop := ∀ i, i < 64 → w.cell? ⟨0, i, none⟩ = some (.int .u8 (zs.getD i 0))
theorem Tab.below {w W : World} (h : Tab w) (hb : Below w.heap.size w W) : Tab W := fun i hi => (hb.cell (p := ⟨0, i, none⟩) (World.block_lt_of_cell? w _ (h i hi))).trans (h i hi)
theorem Tab.alloc {w : World} (h : Tab w) (o : Obj) : Tab (w.alloc o) := h.below ((Below.refl _ w).alloc (Nat.le_refl _) o)
theorem Tab.drew {w : World} (h : Tab w) : Tab w.drew := h
theorem Tab.drewN {w : World} (h : Tab w) (m : Nat) : Tab (w.drewN m) := h
/-- The lowest bit that is set. -/
theorem low (t q : Nat) : 2 ^ t * (2 * q + 1) &&& (2 ^ 64 - 2 ^ t * (2 * q + 1)) = if 2 ^ t * (2 * q + 1) < 2 ^ 64 then 2 ^ t else 2 ^ t * (2 * q + 1) &&& 0 := by
  split
  · rename_i hlt
    have hp : 0 < 2 ^ t := Nat.two_pow_pos t
    have ht : t < 64 := by
      have : 2 ^ t * 1 ≤ 2 ^ t * (2 * q + 1) := Nat.mul_le_mul_left _ (by omega)
      exact (Nat.pow_lt_pow_iff_right (by decide : 1 < 2)).mp (by omega)
    obtain ⟨y, hy⟩ : ∃ y, y = 2 ^ t * (2 * q) + (2 ^ t - 1) := ⟨_, rfl⟩
    have hx : 2 ^ t * (2 * q + 1) = y + 1 := by rw [hy, Nat.mul_add, Nat.mul_one]; omega
    apply Nat.eq_of_testBit_eq
    intro j
    rw [Nat.testBit_and]
    conv => lhs; rhs; rw [hx]
    rw [Nat.testBit_two_pow_sub_succ (by omega), hy]
    have e1 : (2 ^ t * (2 * q + 1)).testBit j = if j < t then false else (2 * q + 1).testBit (j - t) := by
      have := Nat.testBit_two_pow_mul_add (2 * q + 1) (b := 0) (i := t) hp j
      simpa using this
    have e2 : (2 ^ t * (2 * q) + (2 ^ t - 1)).testBit j = if j < t then (2 ^ t - 1).testBit j else (2 * q).testBit (j - t) := Nat.testBit_two_pow_mul_add (2 * q) (by omega) j
    rw [e1, e2, Nat.testBit_two_pow]
    by_cases c : j < t
    · rw [if_pos c]; simp; omega
    · rw [if_neg c, if_neg c]
      by_cases d : j = t
      · subst d; simp [ht]
      · obtain ⟨s, hs⟩ : ∃ s, j - t = s + 1 := ⟨j - t - 1, by omega⟩
        rw [hs, Nat.testBit_succ, Nat.testBit_succ, show (2 * q + 1) / 2 = q by omega, show 2 * q / 2 = q by omega]
        have : ¬ t = j := fun e => d e.symm
        simp only [this, decide_false, Bool.and_eq_false_imp]
        cases q.testBit s <;> simp
  · rename_i h
    rw [Nat.sub_eq_zero_of_le (by omega)]
/-- The table answers each power of two by its exponent. -/
theorem tab_at : ∀ t : Fin 64, zs.getD (2 ^ t.val * 285870213051353865 % 18446744073709551616 / 288230376151711744) 0 = (t.val : Int) ∧ 2 ^ t.val * 285870213051353865 % 18446744073709551616 / 288230376151711744 < 64 := by decide +kernel
theorem place (t q : Nat) (x : Int) (hx : x = ((2 ^ t * (2 * q + 1) : Nat) : Int)) (h1 : x ≤ 18446744073709551615) :
    ∃ n : Nat, IntKind.u64.wrap (bits .and .u64 x (IntKind.u64.wrap (-x)) * 285870213051353865) / 288230376151711744 = (n : Int) ∧ n < 64 ∧ zs.getD n 0 = (t : Int) ∧ t < 64 := by
  obtain ⟨X, hX⟩ : ∃ X, X = 2 ^ t * (2 * q + 1) := ⟨_, rfl⟩
  have hp : 0 < 2 ^ t := Nat.two_pow_pos t
  have hXp : 0 < X := by rw [hX]; exact Nat.mul_pos hp (by omega)
  rw [← hX] at hx
  have hlt : X < 2 ^ 64 := by omega
  have ht : t < 64 := by
    have h2 : 2 ^ t * 1 ≤ 2 ^ t * (2 * q + 1) := Nat.mul_le_mul_left _ (by omega)
    exact (Nat.pow_lt_pow_iff_right (by decide : 1 < 2)).mp (by omega)
  have l := low t q
  rw [← hX, if_pos hlt] at l
  have w1 : IntKind.u64.wrap (-x) = ((2 ^ 64 - X : Nat) : Int) := by
    rw [u64w]
    omega
  have w2 : bits .and .u64 x (IntKind.u64.wrap (-x)) = ((2 ^ t : Nat) : Int) := by
    rw [w1, hx, u64_and _ _ (by omega) (by omega) (by omega) (by omega), Int.toNat_natCast, Int.toNat_natCast, l]
  have tb := tab_at ⟨t, ht⟩
  refine ⟨2 ^ t * 285870213051353865 % 18446744073709551616 / 288230376151711744, ?_, tb.2, tb.1, ht⟩
  rw [w2]
  generalize 2 ^ t = p
  rw [u64w]
  omega
set_option maxRecDepth 100000 in
set_option maxHeartbeats 4000000 in
theorem tz_walk (t q : Nat) (x : Int) (hx : x = ((2 ^ t * (2 * q + 1) : Nat) : Int)) (h1 : x ≤ 18446744073709551615) (w : World) (hT : Tab w) :
    Calls Tryd.prog 27 #[.int .u64 x] w fun e w' => e = .returned (.int .i64 (t : Int)) ∧ w = w' := by
  have h0 : x ≠ 0 := by
    have : 0 < 2 ^ t * (2 * q + 1) := Nat.mul_pos (Nat.two_pow_pos t) (by omega)
    omega
  have hz : (x == 0) = false := by simpa using h0
  obtain ⟨n, hn, hn2, hn3, ht⟩ := place t q x hx h1
  have hcell := hT n hn2
  rw [hn3] at hcell
  have HW : At (wrap64 (t : Int) = (t : Int)) := ⟨by unfold wrap64; omega⟩
  clear hx h1 h0 hn3 ht hT
  go_enter Tryd.func27, Tryd.ntmps27
  go_wp2
  go_ret
  exact ⟨congrArg (fun z => Ending.returned (.int .i64 z)) HW.out, rfl⟩
/-- How often two divides. -/
def tz : Nat → Nat → Nat
  | 0, _ => 0
  | f + 1, x => if x % 2 = 1 then 0 else 1 + tz f (x / 2)
theorem tz_odd : ∀ (f x : Nat), 0 < x → x < 2 ^ f → ∃ q, x = 2 ^ tz f x * (2 * q + 1)
  | 0, x, h0, h1 => by simp at h1; omega
  | f + 1, x, h0, h1 => by
    unfold tz
    by_cases c : x % 2 = 1
    · rw [if_pos c]; exact ⟨x / 2, by omega⟩
    · rw [if_neg c]
      obtain ⟨q, hq⟩ := tz_odd f (x / 2) (by omega) (by rw [Nat.pow_succ] at h1; omega)
      refine ⟨q, ?_⟩
      rw [Nat.add_comm, Nat.pow_succ, Nat.mul_comm _ 2, Nat.mul_assoc, ← hq]; omega
theorem tz_calls (x : Int) (h0 : 0 < x) (h1 : x ≤ 18446744073709551615) (w : World) (hT : Tab w) :
    Calls Tryd.prog 27 #[.int .u64 x] w fun e w' => e = .returned (.int .i64 ((tz 64 x.toNat : Nat) : Int)) ∧ w = w' := by
  obtain ⟨q, hq⟩ := tz_odd 64 x.toNat (by omega) (by omega)
  exact tz_walk (tz 64 x.toNat) q x (by omega) h1 w hT
end Go.Proofs.YtkpholdkijlogaaDoor.STz
