/- Plain facts on order numbers of floats and on 64-bit words, shared by the proofs of this seat. No condition. -/
import Derived.Test.YtmdeolonjmjmgaaDoorWMore
import Derived.Laws.BitsAllLaws
namespace Go.Proofs.YtmdeolonjmjmgaaDoor.M
open Go.RowKit Go.Proofs.YtmdeolonjmjmgaaDoorW.PrintWords Go.Proofs.YtmdeolonjmjmgaaDoorW.PrintLast Go.Proofs.YtmdeolonjmjmgaaDoorW.PrintMore
set_option linter.unusedVariables false
theorem wf64 {a : Int} (h : (Lit.int .i64 a).wf = true) : -9223372036854775808 ≤ a ∧ a ≤ 9223372036854775807 := by
  simp [Lit.wf, IntKind.min, IntKind.max, IntKind.signed, IntKind.bits] at h; omega
theorem wfu64 {a : Int} (h : (Lit.int .u64 a).wf = true) : 0 ≤ a ∧ a ≤ 18446744073709551615 := by
  simp [Lit.wf, IntKind.min, IntKind.max, IntKind.signed, IntKind.bits] at h; omega
theorem u64w (n : Int) : IntKind.u64.wrap n = n % 18446744073709551616 := by
  simp [IntKind.wrap, IntKind.signed, IntKind.bits]
/-- The order number of the infinite one. -/
def top (w : Int) : Int := if w = 32 then 2139095040 else if w = 64 then 9218868437227405312 else 0
theorem top_32 : top 32 = 2139095040 := rfl
theorem top_64 : top 64 = 9218868437227405312 := rfl
theorem top_range (w : Int) : 0 ≤ top w ∧ top w ≤ 9218868437227405312 := by
  unfold top; split
  · omega
  · split <;> omega
theorem top_neg (w : Int) : wrap64 (-top w) = -top w := by have := top_range w; unfold wrap64; omega
/-- An order number of the width. -/
def bitOk (w n : Int) : Bool := decide ((w = 32 ∨ w = 64) ∧ -top w ≤ n ∧ n ≤ top w)
theorem bitOk_iff {w n : Int} : bitOk w n = true ↔ (w = 32 ∨ w = 64) ∧ -top w ≤ n ∧ n ≤ top w := by simp [bitOk]
theorem bitOk_range {w n : Int} (h : bitOk w n = true) : -9218868437227405312 ≤ n ∧ n ≤ 9218868437227405312 := by
  have := bitOk_iff.mp h; have := top_range w; omega
theorem and_top (n : Int) (h0 : 0 ≤ n) (h1 : n < 18446744073709551616) : bits .and .u64 n 9223372036854775808 = n / 9223372036854775808 * 9223372036854775808 := by
  rw [u64_and _ _ h0 h1 (by decide) (by decide)]
  have := nat_bit 63 n.toNat
  rw [show (9223372036854775808 : Int).toNat = 2 ^ 63 by decide, this]; omega
theorem and_31 (n : Int) (h0 : 0 ≤ n) (h1 : n < 4294967296) : bits .and .u64 n 2147483648 = n / 2147483648 * 2147483648 := by
  rw [u64_and _ _ h0 (by omega) (by decide) (by decide)]
  have := nat_bit 31 n.toNat
  rw [show (2147483648 : Int).toNat = 2 ^ 31 by decide, this]; omega
theorem clear_top (n : Int) (h0 : 0 ≤ n) (h1 : n < 18446744073709551616) : bits .andNot .u64 n 9223372036854775808 = n % 9223372036854775808 := by
  rw [u64_andNot _ _ h0 h1 (by decide) (by decide)]
  have := Nat.and_two_pow_sub_one_eq_mod n.toNat 63
  rw [show 18446744073709551615 - (9223372036854775808 : Int).toNat = 2 ^ 63 - 1 by decide, this]; omega
theorem clear_31 (n : Int) (h0 : 0 ≤ n) (h1 : n < 4294967296) : bits .andNot .u64 n 2147483648 = n % 2147483648 := by
  rw [u64_andNot _ _ h0 (by omega) (by decide) (by decide)]
  have h2 := Nat.and_two_pow_sub_one_eq_mod n.toNat 31
  have h3 := Nat.and_mod_two_pow (a := n.toNat) (b := 18446744073709551615 - (2147483648 : Int).toNat) (n := 32)
  rw [show (18446744073709551615 - (2147483648 : Int).toNat) % 2 ^ 32 = 2 ^ 31 - 1 by decide, Nat.mod_eq_of_lt (show n.toNat < 2 ^ 32 by omega), h2,
    Nat.mod_eq_of_lt (Nat.lt_of_le_of_lt Nat.and_le_left (show n.toNat < 2 ^ 32 by omega))] at h3
  rw [h3]; omega
theorem mid_core (a0 a1 : Int) (h0 : -9223372036854775808 ≤ a0 ∧ a0 ≤ 9223372036854775807) (h1 : -9223372036854775808 ≤ a1 ∧ a1 ≤ 9223372036854775807) (g : Int) (hg : 0 ≤ g) :
    wrap64 (a0 + wrap64 (IntKind.u64.wrap (Int.tdiv g 2))) = wrap64 (IntKind.u64.wrap ((IntKind.u64.wrap a0) + (IntKind.u64.wrap (Int.tdiv g 2)))) := by
  simp only [u64w, wrap64, Int.tdiv_eq_ediv_of_nonneg hg]; omega
/-- A pair of the width. -/
def pairOk (w lo hi : Int) : Bool := decide ((w = 32 ∨ w = 64) ∧ -top w ≤ lo ∧ lo ≤ hi ∧ hi ≤ top w ∧ lo ≠ top w ∧ hi ≠ -top w)
theorem pairOk_iff {w lo hi : Int} : pairOk w lo hi = true ↔ (w = 32 ∨ w = 64) ∧ -top w ≤ lo ∧ lo ≤ hi ∧ hi ≤ top w ∧ lo ≠ top w ∧ hi ≠ -top w := by simp [pairOk]
/-- A span of the width: a pair, or empty. -/
def spanOk (w : Int) (s : Bool) (lo hi : Int) : Bool := if s = true then pairOk w lo hi else decide ((w = 32 ∨ w = 64) ∧ lo = 0 ∧ hi = 0)
theorem spanOk_true {w lo hi : Int} : spanOk w true lo hi = pairOk w lo hi := rfl
theorem pairOk_range {w lo hi : Int} (h : pairOk w lo hi = true) : -9218868437227405312 ≤ lo ∧ lo ≤ hi ∧ hi ≤ 9218868437227405312 := by
  have := pairOk_iff.mp h; have := top_range w; omega
theorem pairOk_neg {w lo hi : Int} (h : pairOk w lo hi = true) : pairOk w (-hi) (-lo) = true := by
  rw [pairOk_iff] at h ⊢; omega
theorem pairOk_hull {w a b c d : Int} (h : pairOk w a b = true) (k : pairOk w c d = true) : pairOk w (mn a c) (mx b d) = true := by
  rw [pairOk_iff] at h k ⊢; unfold mn mx; split <;> split <;> omega
theorem pairOk_meet {w a b c d : Int} (h : pairOk w a b = true) (k : pairOk w c d = true) : pairOk w (mx a c) (mn b d) = decide (mx a c ≤ mn b d) := by
  rw [Bool.eq_iff_iff, pairOk_iff, decide_eq_true_iff]; rw [pairOk_iff] at h k; unfold mn mx; split <;> split <;> omega
theorem wraps_i64_63 (n : Int) (h₀ : 0 ≤ n) (h₁ : n < 2 ^ 63) : IntKind.i64.wrap n = n := by
  rw [IntKind.wrap_i64]; omega
theorem i64_mask23 (n : Int) (h0 : 0 ≤ n) (h1 : n < 9223372036854775808) : bits .and .i64 n 8388607 = n % 8388608 :=
  bits_mask .i64 63 (by decide) wraps_i64_63 23 (by decide) n h0 (by omega)
theorem i64_mask52 (n : Int) (h0 : 0 ≤ n) (h1 : n < 9223372036854775808) : bits .and .i64 n 4503599627370495 = n % 4503599627370496 :=
  bits_mask .i64 63 (by decide) wraps_i64_63 52 (by decide) n h0 (by omega)
theorem i64_or23 (n : Int) (h0 : 0 ≤ n) (h1 : n < 8388608) : bits .or .i64 n 8388608 = n + 8388608 := by
  obtain ⟨a, rfl⟩ := Int.eq_ofNat_of_zero_le h0
  have := (bits_nat .i64 63 (by decide) wraps_i64_63 a 8388608 (by omega) (by decide)).2
  rw [show ((8388608 : Nat) : Int) = 8388608 from rfl] at this
  rw [this, Nat.or_comm, nat_join 23 8388608 a (by decide) (by omega)]; omega
theorem i64_or52 (n : Int) (h0 : 0 ≤ n) (h1 : n < 4503599627370496) : bits .or .i64 n 4503599627370496 = n + 4503599627370496 := by
  obtain ⟨a, rfl⟩ := Int.eq_ofNat_of_zero_le h0
  have := (bits_nat .i64 63 (by decide) wraps_i64_63 a 4503599627370496 (by omega) (by decide)).2
  rw [show ((4503599627370496 : Nat) : Int) = 4503599627370496 from rfl] at this
  rw [this, Nat.or_comm, nat_join 52 4503599627370496 a (by decide) (by omega)]; omega
/-- A float's parts: below 0, size, power, and whether there are any. -/
def partOf (w n : Int) : Bool × Int × Int × Bool :=
  if bitOk w n = true ∧ n ≠ top w ∧ n ≠ -top w then
    let s := if n < 0 then -n else n
    let u := if w = 32 then 8388608 else 4503599627370496
    let p := if w = 32 then -149 else -1074
    if s / u = 0 then (decide (n < 0), s % u, p, true) else (decide (n < 0), s % u + u, p + s / u - 1, true)
  else (false, 0, 0, false)
end Go.Proofs.YtmdeolonjmjmgaaDoor.M
