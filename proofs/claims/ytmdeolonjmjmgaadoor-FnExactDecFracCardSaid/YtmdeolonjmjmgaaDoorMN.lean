/- Plain facts on whole numbers as lists of digits to the base 65536. No condition. -/
import Derived.Test.YtmdeolonjmjmgaaDoorWMore
namespace Go.Proofs.YtmdeolonjmjmgaaDoor.MN
set_option linter.unusedVariables false


/-- The value of digits to the base 65536, the lowest first. -/
def val : List Int → Int
  | [] => 0
  | d :: ds => d + 65536 * val ds

/-- All digits lie in 0..65535. -/
def DOk (a : List Int) : Prop := ∀ d ∈ a, 0 ≤ d ∧ d < 65536

theorem DOk.nil : DOk [] := by intro d h; cases h
theorem DOk.cons {d : Int} {a : List Int} (h0 : 0 ≤ d) (h1 : d < 65536) (h : DOk a) : DOk (d :: a) := by
  intro x hx
  rcases List.mem_cons.mp hx with rfl | hx
  · exact ⟨h0, h1⟩
  · exact h x hx
theorem DOk.head {d : Int} {a : List Int} (h : DOk (d :: a)) : 0 ≤ d ∧ d < 65536 := h d (by simp)
theorem DOk.tail {d : Int} {a : List Int} (h : DOk (d :: a)) : DOk a := fun x hx => h x (by simp [hx])
theorem DOk.append {a b : List Int} (h : DOk a) (k : DOk b) : DOk (a ++ b) := by
  intro x hx
  rcases List.mem_append.mp hx with hx | hx
  · exact h x hx
  · exact k x hx
theorem DOk.left {a b : List Int} (h : DOk (a ++ b)) : DOk a := fun x hx => h x (by simp [hx])
theorem DOk.right {a b : List Int} (h : DOk (a ++ b)) : DOk b := fun x hx => h x (by simp [hx])
theorem DOk.take {a : List Int} (h : DOk a) (n : Nat) : DOk (a.take n) := fun x hx => h x (List.mem_of_mem_take hx)
theorem DOk.drop {a : List Int} (h : DOk a) (n : Nat) : DOk (a.drop n) := fun x hx => h x (List.mem_of_mem_drop hx)
theorem DOk.getD {a : List Int} (h : DOk a) (i : Nat) : 0 ≤ a.getD i 0 ∧ a.getD i 0 < 65536 := by
  by_cases hi : i < a.length
  · rw [List.getD_eq_getElem?_getD, List.getElem?_eq_getElem hi]; exact h _ (List.getElem_mem hi)
  · rw [List.getD_eq_getElem?_getD, List.getElem?_eq_none (by omega)]; simp
theorem DOk.set {a : List Int} (h : DOk a) (i : Nat) {x : Int} (h0 : 0 ≤ x) (h1 : x < 65536) : DOk (a.set i x) := by
  intro y hy
  rcases List.mem_or_eq_of_mem_set hy with hy | rfl
  · exact h y hy
  · exact ⟨h0, h1⟩
theorem DOk.replicate (n : Nat) : DOk (List.replicate n 0) := by
  intro x hx; rw [List.mem_replicate] at hx; omega

/-- A number: digits, the last one not 0. -/
def Can (a : List Int) : Prop := DOk a ∧ a.getLast? ≠ some 0

theorem val_nonneg {a : List Int} (h : DOk a) : 0 ≤ val a := by
  induction a with
  | nil => simp [val]
  | cons d ds ih => have := ih h.tail; have := h.head; simp only [val]; omega

def pw (n : Nat) : Int := 65536 ^ n
theorem pw_zero : pw 0 = 1 := rfl
theorem pw_succ (n : Nat) : pw (n + 1) = 65536 * pw n := by unfold pw; rw [Int.pow_succ, Int.mul_comm]
theorem pw_pos (n : Nat) : 0 < pw n := by
  induction n with
  | zero => decide
  | succ n ih => rw [pw_succ]; omega
theorem pw_add (m n : Nat) : pw (m + n) = pw m * pw n := by unfold pw; exact Int.pow_add ..
theorem pw_le {m n : Nat} (h : m ≤ n) : pw m ≤ pw n := by
  induction h with
  | refl => exact Int.le_refl _
  | step _ ih => rw [pw_succ]; have := pw_pos m; have := pw_pos; omega

theorem val_append (a b : List Int) : val (a ++ b) = val a + pw a.length * val b := by
  induction a with
  | nil => simp [val, pw]
  | cons d ds ih =>
    simp only [List.cons_append, val, ih, List.length_cons, pw_succ]
    rw [Int.mul_add, Int.mul_assoc]; omega

theorem val_lt {a : List Int} (h : DOk a) : val a < pw a.length := by
  induction a with
  | nil => simp [val, pw]
  | cons d ds ih =>
    have := ih h.tail; have := h.head
    simp only [val, List.length_cons, pw_succ]; omega

theorem val_replicate (n : Nat) : val (List.replicate n 0) = 0 := by
  induction n with
  | zero => rfl
  | succ n ih => rw [List.replicate_succ]; simp only [val, ih]; omega

theorem val_set {a : List Int} {i : Nat} (hi : i < a.length) (x : Int) : val (a.set i x) = val a + pw i * (x - a.getD i 0) := by
  induction a generalizing i with
  | nil => simp at hi
  | cons d ds ih =>
    cases i with
    | zero => simp [val, pw]; omega
    | succ i =>
      simp only [List.length_cons] at hi
      simp only [List.set_cons_succ, val, ih (i := i) (by omega), List.getD_cons_succ, pw_succ]
      rw [Int.mul_add, Int.mul_assoc]; omega

theorem getLast?_cons_ne {d : Int} {ds : List Int} (h : ds ≠ []) : (d :: ds).getLast? = ds.getLast? := by
  cases ds with
  | nil => exact absurd rfl h
  | cons e es => simp [List.getLast?_cons_cons]

theorem Can.nil : Can [] := ⟨DOk.nil, by simp⟩
theorem Can.tail {d : Int} {a : List Int} (h : Can (d :: a)) : Can a := by
  refine ⟨h.1.tail, ?_⟩
  by_cases e : a = []
  · subst e; simp
  · have := h.2; rwa [getLast?_cons_ne e] at this

theorem Can.pos {a : List Int} (h : Can a) (hne : a ≠ []) : pw (a.length - 1) ≤ val a := by
  induction a with
  | nil => exact absurd rfl hne
  | cons d ds ih =>
    by_cases e : ds = []
    · subst e
      have h2 := h.2; have h1 := h.1.head; simp at h2
      simp [val, pw]; omega
    · have := ih h.tail e
      have := h.1.head
      have hl : 0 < ds.length := List.length_pos_iff.mpr e
      simp only [val, List.length_cons]
      have e2 : ds.length + 1 - 1 = (ds.length - 1) + 1 := by omega
      rw [e2, pw_succ]; omega

theorem Can.zero {a : List Int} (h : Can a) (h0 : val a = 0) : a = [] := by
  by_cases e : a = []
  · exact e
  · have := h.pos e; have := pw_pos (a.length - 1); omega

/-- A number is its value. -/
theorem Can.inj {a b : List Int} (ha : Can a) (hb : Can b) (h : val a = val b) : a = b := by
  induction a generalizing b with
  | nil => exact (hb.zero (by rw [← h]; rfl)).symm
  | cons d ds ih =>
    cases b with
    | nil => exact ha.zero h
    | cons e es =>
      have h1 := ha.1.head; have h2 := hb.1.head
      simp only [val] at h
      have : d = e := by omega
      subst this
      rw [ih ha.tail hb.tail (by omega)]

theorem Can.len_le {a : List Int} {n : Nat} (h : Can a) (hv : val a < pw n) : a.length ≤ n := by
  by_cases e : a = []
  · simp [e]
  · have h1 := h.pos e
    by_cases hn : a.length ≤ n
    · exact hn
    · have := pw_le (show n ≤ a.length - 1 by omega); omega
theorem Can.lt_of_len {a : List Int} {n : Nat} (h : DOk a) (hv : a.length ≤ n) : val a < pw n := by
  have := val_lt h; have := pw_le hv; omega

/-- Noughts behind the last digit fall away. -/
def trimD : List Int → List Int
  | [] => []
  | d :: ds => match trimD ds with
    | [] => if d = 0 then [] else [d]
    | e :: es => d :: e :: es

theorem val_trimD (a : List Int) : val (trimD a) = val a := by
  induction a with
  | nil => rfl
  | cons d ds ih =>
    simp only [trimD]
    split
    · rename_i h; rw [h] at ih
      split
      · rename_i h0; simp only [val] at *; omega
      · simp only [val] at *; omega
    · rename_i e es h; rw [h] at ih; simp only [val] at *; omega
theorem Can.trimD {a : List Int} (h : DOk a) : Can (trimD a) := by
  induction a with
  | nil => exact Can.nil
  | cons d ds ih =>
    have ih := ih h.tail
    simp only [MN.trimD]
    split
    · split
      · exact Can.nil
      · rename_i h0; exact ⟨DOk.cons h.head.1 h.head.2 DOk.nil, by simpa using h0⟩
    · rename_i e es he; rw [he] at ih
      exact ⟨DOk.cons h.head.1 h.head.2 ih.1, by rw [getLast?_cons_ne (by simp)]; exact ih.2⟩
theorem trimD_length (a : List Int) : (trimD a).length ≤ a.length := by
  induction a with
  | nil => simp [trimD]
  | cons d ds ih =>
    simp only [trimD]
    split
    · split <;> simp
    · rename_i e es he; rw [he] at ih; simpa using ih
theorem trimD_can {a : List Int} (h : Can a) : trimD a = a := (Can.trimD h.1).inj h (val_trimD a)
theorem trimD_snoc_zero (a : List Int) : trimD (a ++ [0]) = trimD a := by
  induction a with
  | nil => simp [trimD]
  | cons d ds ih => simp only [List.cons_append, trimD, ih]
theorem trimD_snoc_ne (a : List Int) {x : Int} (h : x ≠ 0) : trimD (a ++ [x]) = a ++ [x] := by
  induction a with
  | nil => simp [trimD, h]
  | cons d ds ih =>
    simp only [List.cons_append, trimD, ih]
    cases ds <;> simp

/-- What NatOk tells. -/
def natOk (a : List Int) : Bool := decide (a.length ≤ 256) && ((a.getLast? != some 0) && a.all fun d => decide (0 ≤ d ∧ d ≤ 65535))
theorem natOk_iff {a : List Int} : natOk a = true ↔ a.length ≤ 256 ∧ Can a := by
  unfold natOk Can DOk
  simp only [Bool.and_eq_true, decide_eq_true_eq, bne_iff_ne, List.all_eq_true]
  constructor
  · rintro ⟨h1, h2, h3⟩; exact ⟨h1, fun d hd => by have := h3 d hd; omega, h2⟩
  · rintro ⟨h1, h3, h2⟩; exact ⟨h1, h2, fun d hd => by have := h3 d hd; omega⟩
end Go.Proofs.YtmdeolonjmjmgaaDoor.MN
