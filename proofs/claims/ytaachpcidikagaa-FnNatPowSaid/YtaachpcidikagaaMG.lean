/- Words on what a generator draws: a value and a place behind it, within bounds. No condition. -/
import Derived.Test.YtaachpcidikagaaMB
namespace Go.Proofs.Ytaachpcidikagaa.MG
open Go.RowKit Go.Proofs.YtaachpcidikagaaW.PrintWords Go.Proofs.YtaachpcidikagaaW.PrintLast Go.Proofs.YtaachpcidikagaaW.PrintMore Go.Proofs.Ytaachpcidikagaa.M
set_option linter.unusedVariables false
/-- It tells a value with P, and a place of at most J. -/
def DR {α : Type} (J : Int) (f : Option (α × Int)) (P : α → Prop) : Prop := ∃ v j, f = some (v, j) ∧ 0 ≤ j ∧ j ≤ J ∧ P v
theorem DR.bind {α β : Type} {J J2 : Int} {f : Option (α × Int)} {g : α × Int → Option (β × Int)} {P : α → Prop} {Q : β → Prop}
    (h : DR J f P) (hg : ∀ v j, 0 ≤ j → j ≤ J → P v → DR J2 (g (v, j)) Q) : DR J2 (f.bind g) Q := by
  obtain ⟨v, j, rfl, h0, h1, hp⟩ := h
  exact hg v j h0 h1 hp
theorem DR.ite {α : Type} {J : Int} {c : Prop} [Decidable c] {a b : Option (α × Int)} {P : α → Prop} (h1 : c → DR J a P) (h2 : ¬ c → DR J b P) : DR J (if c then a else b) P := by
  split
  · exact h1 ‹_›
  · exact h2 ‹_›
theorem DR.here {α : Type} {J : Int} {v : α} {j : Int} {P : α → Prop} (h0 : 0 ≤ j) (h1 : j ≤ J) (hp : P v) : DR J (some (v, j)) P := ⟨v, j, rfl, h0, h1, hp⟩
theorem DR.mono {α : Type} {J J' : Int} {f : Option (α × Int)} {P Q : α → Prop} (h : DR J f P) (hJ : J ≤ J') (hp : ∀ v, P v → Q v) : DR J' f Q := by
  obtain ⟨v, j, e, h0, h1, h⟩ := h
  exact ⟨v, j, e, h0, by omega, hp v h⟩
/-- It tells two values with P, and a place of at most J. -/
def DR2 (J : Int) (f : Option (Int × Int × Int)) (P : Int → Int → Prop) : Prop := ∃ a b j, f = some (a, b, j) ∧ 0 ≤ j ∧ j ≤ J ∧ P a b
theorem DR2.bind {J J2 : Int} {α : Type} {f : Option (α × Int)} {g : α × Int → Option (Int × Int × Int)} {P : α → Prop} {Q : Int → Int → Prop}
    (h : DR J f P) (hg : ∀ v j, 0 ≤ j → j ≤ J → P v → DR2 J2 (g (v, j)) Q) : DR2 J2 (f.bind g) Q := by
  obtain ⟨v, j, rfl, h0, h1, hp⟩ := h
  exact hg v j h0 h1 hp
theorem DR2.then {J J2 : Int} {f : Option (Int × Int × Int)} {g : Int × Int × Int → Option (Int × Int × Int)} {P Q : Int → Int → Prop}
    (h : DR2 J f P) (hg : ∀ a b j, 0 ≤ j → j ≤ J → P a b → DR2 J2 (g (a, b, j)) Q) : DR2 J2 (f.bind g) Q := by
  obtain ⟨a, b, j, rfl, h0, h1, hp⟩ := h
  exact hg a b j h0 h1 hp
theorem DR2.ite {J : Int} {c : Prop} [Decidable c] {a b : Option (Int × Int × Int)} {P : Int → Int → Prop} (h1 : c → DR2 J a P) (h2 : ¬ c → DR2 J b P) : DR2 J (if c then a else b) P := by
  split
  · exact h1 ‹_›
  · exact h2 ‹_›
theorem DR2.here {J : Int} {a b : Int} {j : Int} {P : Int → Int → Prop} (h0 : 0 ≤ j) (h1 : j ≤ J) (hp : P a b) : DR2 J (some (a, b, j)) P := ⟨a, b, j, rfl, h0, h1, hp⟩
theorem DR2.mono {J J' : Int} {f : Option (Int × Int × Int)} {P Q : Int → Int → Prop} (h : DR2 J f P) (hJ : J ≤ J') (hp : ∀ a b, P a b → Q a b) : DR2 J' f Q := by
  obtain ⟨a, b, j, e, h0, h1, h⟩ := h
  exact ⟨a, b, j, e, h0, by omega, hp a b h⟩
def Bd (B a : Int) : Prop := -B ≤ a ∧ a ≤ B
def In64 (a : Int) : Prop := -9223372036854775808 ≤ a ∧ a ≤ 9223372036854775807
theorem in64_wrap (a : Int) : In64 (wrap64 a) := by unfold In64 wrap64; omega
theorem in64_top (w : Int) : In64 (top w) := by have := top_range w; unfold In64; omega
def Bytes (l : List Int) : Prop := ∀ x ∈ l, (Lit.int .u8 x).wf = true
theorem Bytes.take {l : List Int} (h : Bytes l) (n : Nat) : Bytes (l.take n) := fun x hx => h x (List.mem_of_mem_take hx)
theorem byte_range {l : List Int} (h : Bytes l) (i : Int) : 0 ≤ rd l i ∧ rd l i ≤ 255 := by
  unfold rd
  by_cases hi : i.toNat < l.length
  · rw [List.getD_eq_getElem?_getD, List.getElem?_eq_getElem hi, Option.getD_some]
    have := h _ (List.getElem_mem hi)
    simp [Lit.wf, IntKind.min, IntKind.max, IntKind.signed, IntKind.bits] at this; omega
  · rw [List.getD_eq_getElem?_getD, List.getElem?_eq_none (by omega), Option.getD_none]; omega
theorem xor_i64 (a b : Int) (h0 : 0 ≤ a) (h1 : a < 9223372036854775808) (h2 : 0 ≤ b) (h3 : b < 9223372036854775808) : 0 ≤ bits .xor .i64 a b := by
  obtain ⟨A, rfl⟩ := Int.eq_ofNat_of_zero_le h0
  obtain ⟨B, rfl⟩ := Int.eq_ofNat_of_zero_le h2
  have hx : A ^^^ B < 2 ^ 63 := Nat.xor_lt_two_pow (by omega) (by omega)
  have e : bits .xor .i64 (A : Int) (B : Int) = IntKind.i64.wrap (((A % 2 ^ 64) ^^^ (B % 2 ^ 64) : Nat) : Int) := by
    simp only [bits, BitVec.ofInt_natCast, BitVec.toNat_xor, BitVec.toNat_ofNat]; rfl
  rw [Nat.mod_eq_of_lt (show A < 2 ^ 64 by omega), Nat.mod_eq_of_lt (show B < 2 ^ 64 by omega), IntKind.wrap_i64] at e
  rw [e]; omega
/-- What a list of numbers that stands there tells at i. -/
theorem pick_core (b1 b2 p L : Int) (hb1 : 0 ≤ b1 ∧ b1 ≤ 255) (hb2 : 0 ≤ b2 ∧ b2 ≤ 255) (hp : 0 ≤ p ∧ p ≤ 5000) (hL : 0 < L) (n : Int) (hn : 1 ≤ n) :
    0 ≤ Int.tmod (bits .xor .i64 (wrap64 ((wrap64 ((wrap64 ((wrap64 (b1 * 131)) + (wrap64 (b2 * 1117)))) + (wrap64 (p * 29)))) + (wrap64 ((wrap64 (Int.tdiv p L)) * 53)))) (wrap64 (Int.tdiv (wrap64 ((wrap64 ((wrap64 ((wrap64 (b1 * 131)) + (wrap64 (b2 * 1117)))) + (wrap64 (p * 29)))) + (wrap64 ((wrap64 (Int.tdiv p L)) * 53)))) 64))) n ∧
    Int.tmod (bits .xor .i64 (wrap64 ((wrap64 ((wrap64 ((wrap64 (b1 * 131)) + (wrap64 (b2 * 1117)))) + (wrap64 (p * 29)))) + (wrap64 ((wrap64 (Int.tdiv p L)) * 53)))) (wrap64 (Int.tdiv (wrap64 ((wrap64 ((wrap64 ((wrap64 (b1 * 131)) + (wrap64 (b2 * 1117)))) + (wrap64 (p * 29)))) + (wrap64 ((wrap64 (Int.tdiv p L)) * 53)))) 64))) n < n := by
  have hq : 0 ≤ Int.tdiv p L ∧ Int.tdiv p L ≤ 5000 := by
    rw [Int.tdiv_eq_ediv_of_nonneg hp.1]
    exact ⟨Int.ediv_nonneg hp.1 (by omega), Int.le_trans (Int.ediv_le_self _ hp.1) hp.2⟩
  generalize Int.tdiv p L = q at *
  have ha : (wrap64 ((wrap64 ((wrap64 ((wrap64 (b1 * 131)) + (wrap64 (b2 * 1117)))) + (wrap64 (p * 29)))) + (wrap64 ((wrap64 q) * 53)))) = b1 * 131 + b2 * 1117 + p * 29 + q * 53 := by
    unfold wrap64; omega
  rw [ha]
  generalize hA : b1 * 131 + b2 * 1117 + p * 29 + q * 53 = A
  have hA0 : 0 ≤ A ∧ A < 1000000 := by omega
  have h2 : wrap64 (Int.tdiv A 64) = A / 64 := by rw [Int.tdiv_eq_ediv_of_nonneg hA0.1]; unfold wrap64; omega
  rw [h2]
  have hx := xor_i64 A (A / 64) hA0.1 (by omega) (by omega) (by omega)
  exact ⟨Int.tmod_nonneg _ hx, Int.tmod_lt_of_pos _ (by omega)⟩
/-- The highest place of a size. -/
def Hi (x : Int) (t : Nat) : Prop := t ≤ 52 ∧ (2 : Int) ^ t ≤ x ∧ x < 2 ^ (t + 1)
theorem hi_ex (x : Int) (f : Nat) (hf : f ≤ 52) (h0 : 0 < x) (h1 : x < 2 ^ f) : ∃ t, Hi x t ∧ t < f := by
  obtain ⟨n, rfl⟩ := Int.eq_ofNat_of_zero_le (show 0 ≤ x by omega)
  have hn : n ≠ 0 := by omega
  have a := Nat.log2_self_le hn
  have b := Nat.lt_log2_self (n := n)
  have h1' : n < 2 ^ f := by exact_mod_cast h1
  have c : n.log2 < f := by
    rcases Nat.lt_or_ge n.log2 f with h | h
    · exact h
    · have := Nat.pow_le_pow_right (show 0 < 2 by decide) h; omega
  refine ⟨n.log2, ⟨by omega, by exact_mod_cast a, by exact_mod_cast b⟩, c⟩
/-- A size of a float's number s, u being 2 to the fraction's places. -/
def sz (u s : Int) : Int := if s / u = 0 then s % u else s % u + u
def pwr (u p0 s : Int) : Int := if s / u = 0 then p0 else p0 + s / u - 1
def lessV (p1 : Int) (x1 : Int) (t1 : Nat) (p2 : Int) (x2 : Int) (t2 : Nat) : Bool :=
  decide (p1 + t1 < p2 + t2 ∨ (p1 + t1 = p2 + t2 ∧ x1 * 2 ^ (63 - t1) < x2 * 2 ^ (63 - t2)))
theorem hi_sz (u s : Int) (f : Nat) (hu : (f = 23 ∧ u = 8388608) ∨ (f = 52 ∧ u = 4503599627370496)) (h : 0 < s) : ∃ t, Hi (sz u s) t ∧ (s / u = 0 → t < f) ∧ (s / u ≠ 0 → t = f) := by
  by_cases e : s / u = 0
  · have hx : sz u s = s := by unfold sz; rw [if_pos e]; rcases hu with ⟨_, rfl⟩ | ⟨_, rfl⟩ <;> omega
    have hl : s < 2 ^ f := by rcases hu with ⟨rfl, rfl⟩ | ⟨rfl, rfl⟩ <;> omega
    obtain ⟨t, h1, h2⟩ := hi_ex s f (by omega) h hl
    exact ⟨t, by rw [hx]; exact h1, fun _ => h2, fun q => absurd e q⟩
  · refine ⟨f, ?_, fun q => absurd q e, fun _ => rfl⟩
    unfold Hi sz; rw [if_neg e]
    rcases hu with ⟨rfl, rfl⟩ | ⟨rfl, rfl⟩ <;> (refine ⟨by omega, by omega, by omega⟩)
theorem pow_pos (t : Nat) : (0 : Int) < 2 ^ t := by have := Nat.pow_pos (n := t) (show 0 < 2 by decide); exact_mod_cast this
theorem pow_le {a b : Nat} (h : a ≤ b) : (2 : Int) ^ a ≤ 2 ^ b := by exact_mod_cast Nat.pow_le_pow_right (show 0 < 2 by decide) h
theorem less_core (u p0 s1 s2 : Int) (f t1 t2 : Nat) (hu : (f = 23 ∧ u = 8388608) ∨ (f = 52 ∧ u = 4503599627370496)) (h1 : 0 < s1) (h2 : 0 < s2)
    (k1 : Hi (sz u s1) t1 ∧ (s1 / u = 0 → t1 < f) ∧ (s1 / u ≠ 0 → t1 = f)) (k2 : Hi (sz u s2) t2 ∧ (s2 / u = 0 → t2 < f) ∧ (s2 / u ≠ 0 → t2 = f)) :
    lessV (pwr u p0 s1) (sz u s1) t1 (pwr u p0 s2) (sz u s2) t2 = decide (s1 < s2) := by
  have same : ∀ (t : Nat) (x y : Int), x * 2 ^ (63 - t) < y * 2 ^ (63 - t) ↔ x < y := fun t x y => Int.mul_lt_mul_right (pow_pos _)
  unfold lessV
  rw [decide_eq_decide]
  obtain ⟨⟨a1, b1, c1⟩, d1, e1⟩ := k1
  obtain ⟨⟨a2, b2, c2⟩, d2, e2⟩ := k2
  by_cases q1 : s1 / u = 0 <;> by_cases q2 : s2 / u = 0
  · have r1 := d1 q1
    have r2 := d2 q2
    have x1 : sz u s1 = s1 := by unfold sz; rw [if_pos q1]; rcases hu with ⟨_, rfl⟩ | ⟨_, rfl⟩ <;> omega
    have x2 : sz u s2 = s2 := by unfold sz; rw [if_pos q2]; rcases hu with ⟨_, rfl⟩ | ⟨_, rfl⟩ <;> omega
    have y1 : pwr u p0 s1 = p0 := by unfold pwr; rw [if_pos q1]
    have y2 : pwr u p0 s2 = p0 := by unfold pwr; rw [if_pos q2]
    rw [x1] at b1 c1 ⊢
    rw [x2] at b2 c2 ⊢
    rw [y1, y2]
    rcases Nat.lt_trichotomy t1 t2 with h | h | h
    · have := pow_le (show t1 + 1 ≤ t2 by omega)
      constructor
      · intro _; omega
      · intro _; left; omega
    · subst h
      rw [same]; omega
    · have := pow_le (show t2 + 1 ≤ t1 by omega)
      constructor
      · intro k; omega
      · intro _; omega
  · have r1 := d1 q1
    have r2 := e2 q2
    have y1 : pwr u p0 s1 = p0 := by unfold pwr; rw [if_pos q1]
    have y2 : pwr u p0 s2 = p0 + s2 / u - 1 := by unfold pwr; rw [if_neg q2]
    rw [y1, y2]
    constructor
    · intro _; rcases hu with ⟨_, rfl⟩ | ⟨_, rfl⟩ <;> omega
    · intro _; left; rcases hu with ⟨_, rfl⟩ | ⟨_, rfl⟩ <;> omega
  · have r1 := e1 q1
    have r2 := d2 q2
    have y1 : pwr u p0 s1 = p0 + s1 / u - 1 := by unfold pwr; rw [if_neg q1]
    have y2 : pwr u p0 s2 = p0 := by unfold pwr; rw [if_pos q2]
    rw [y1, y2]
    constructor
    · intro k; rcases hu with ⟨_, rfl⟩ | ⟨_, rfl⟩ <;> omega
    · intro _; rcases hu with ⟨_, rfl⟩ | ⟨_, rfl⟩ <;> omega
  · have r1 := e1 q1
    have r2 := e2 q2
    have y1 : pwr u p0 s1 = p0 + s1 / u - 1 := by unfold pwr; rw [if_neg q1]
    have y2 : pwr u p0 s2 = p0 + s2 / u - 1 := by unfold pwr; rw [if_neg q2]
    have x1 : sz u s1 = s1 % u + u := by unfold sz; rw [if_neg q1]
    have x2 : sz u s2 = s2 % u + u := by unfold sz; rw [if_neg q2]
    rw [y1, y2, r1, r2, same, x1, x2]
    rcases hu with ⟨_, rfl⟩ | ⟨_, rfl⟩ <;> omega
end Go.Proofs.Ytaachpcidikagaa.MG
