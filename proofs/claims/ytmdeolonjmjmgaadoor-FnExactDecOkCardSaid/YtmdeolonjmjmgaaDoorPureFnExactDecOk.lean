/- DecOk of the program and of the reference agree for every text.
   Conditions: none beyond those of the given row (each number is of its kind). -/
import Derived.Test.YtmdeolonjmjmgaaDoorQFnExactDecOkx3
import Derived.Test.YtmdeolonjmjmgaaDoorMN
import Derived.Test.YtmdeolonjmjmgaaDoorSLit
namespace Go.Proofs.YtmdeolonjmjmgaaDoor.Pure
open Go.RowKit Go.Proofs.YtmdeolonjmjmgaaDoor.QFnExactDecOk Go.Proofs.YtmdeolonjmjmgaaDoorW.PrintWords Go.Proofs.YtmdeolonjmjmgaaDoorW.PrintLast Go.Proofs.YtmdeolonjmjmgaaDoorW.PrintMore Go.Proofs.YtmdeolonjmjmgaaDoor.MN Go.Proofs.YtmdeolonjmjmgaaDoor.SLit
set_option linter.unusedVariables false
set_option linter.unusedSimpArgs false
def lqd (s : ByteArray) (j : Nat) : Bool := decide (48 ≤ bt s (j : Int)) && decide (bt s (j : Int) ≤ 57)
def rn (s : ByteArray) : Nat → Nat → Nat
  | 0, _ => 0
  | m + 1, a => if lqd s a = true then rn s m (a + 1) + 1 else 0
def run (s : ByteArray) (a : Nat) : Nat := rn s (s.size - a) a
theorem lqd_iff (s : ByteArray) (j : Nat) : lqd s j = true ↔ 48 ≤ bt s (j : Int) ∧ bt s (j : Int) ≤ 57 := by
  unfold lqd; rw [Bool.and_eq_true, decide_eq_true_eq, decide_eq_true_eq]
theorem rn_le (s : ByteArray) : ∀ m a, rn s m a ≤ m := by
  intro m
  induction m with
  | zero => intro a; exact Nat.le_refl _
  | succ m ih =>
    intro a
    rw [rn]
    split
    · exact Nat.succ_le_succ (ih _)
    · exact Nat.zero_le _
theorem rn_dig (s : ByteArray) : ∀ m a j, j < rn s m a → lqd s (a + j) = true := by
  intro m
  induction m with
  | zero => intro a j h; exact absurd h (Nat.not_lt_zero _)
  | succ m ih =>
    intro a j h
    rw [rn] at h
    split at h
    · rename_i hd
      cases j with
      | zero => exact hd
      | succ j => rw [show a + (j + 1) = a + 1 + j by omega]; exact ih (a + 1) j (by omega)
    · exact absurd h (Nat.not_lt_zero _)
theorem rn_stop (s : ByteArray) : ∀ m a, rn s m a < m → lqd s (a + rn s m a) = false := by
  intro m
  induction m with
  | zero => intro a h; exact absurd h (Nat.not_lt_zero _)
  | succ m ih =>
    intro a h
    by_cases hd : lqd s a = true
    · have e : rn s (m + 1) a = rn s m (a + 1) + 1 := by rw [rn, if_pos hd]
      rw [e] at h ⊢
      rw [show a + (rn s m (a + 1) + 1) = a + 1 + rn s m (a + 1) by omega]
      exact ih (a + 1) (by omega)
    · have e : rn s (m + 1) a = 0 := by rw [rn, if_neg hd]
      rw [e, Nat.add_zero]
      exact Bool.eq_false_iff.mpr hd
theorem rn_uniq (s : ByteArray) (m a r : Nat) (h0 : r ≤ m) (h1 : ∀ j, j < r → lqd s (a + j) = true) (h2 : r < m → lqd s (a + r) = false) : rn s m a = r := by
  rcases Nat.lt_trichotomy (rn s m a) r with h | h | h
  · have h3 := rn_stop s m a (by omega)
    rw [h1 _ h] at h3; cases h3
  · exact h
  · have h4 := rn_le s m a
    have h3 := rn_dig s m a r h
    rw [h2 (by omega)] at h3; cases h3
theorem rn_cut (s : ByteArray) (m m' a : Nat) (h : m ≤ m') : rn s m a = if rn s m' a ≤ m then rn s m' a else m := by
  split
  · rename_i h1
    refine rn_uniq s m a _ h1 (fun j hj => rn_dig s m' a j hj) (fun h2 => rn_stop s m' a (by omega))
  · rename_i h1
    exact rn_uniq s m a m (Nat.le_refl _) (fun j hj => rn_dig s m' a j (by omega)) (fun h2 => absurd h2 (Nat.lt_irrefl _))
theorem rn_eq (s x : ByteArray) (a : Nat) : ∀ m i, (∀ j, j < m → bt x ((i + j : Nat) : Int) = bt s ((a + i + j : Nat) : Int)) → rn x m i = rn s m (a + i) := by
  intro m
  induction m with
  | zero => intro i h; rfl
  | succ m ih =>
    intro i h
    have h0 := h 0 (by omega)
    rw [Nat.add_zero, Nat.add_zero] at h0
    have e : lqd x i = lqd s (a + i) := by unfold lqd; rw [h0]
    rw [rn, rn, e, ih (i + 1) (fun j hj => by have := h (j + 1) (by omega); rw [show i + 1 + j = i + (j + 1) by omega, show a + (i + 1) + j = a + i + (j + 1) by omega]; exact this), show a + (i + 1) = a + i + 1 by omega]
theorem lq_id (x : ByteArray) (hx : x.size ≤ 1048576) : ∀ (m i k : Nat), i + m = x.size → m < k → impl_isDigits.l0 k x (x.size : Int) (i : Int) = some (decide (rn x m i = m ∧ x.size ≠ 0)) := by
  intro m
  induction m with
  | zero =>
    intro i k hi hk
    obtain ⟨k, rfl⟩ : ∃ q, k = q + 1 := ⟨k - 1, by omega⟩
    rw [impl_isDigits.l0, if_neg (by omega)]
    have h2 : x.toList.length = x.size := by rw [Lib.toList_data]; exact Array.length_toList
    cases hx : x.toList with
    | nil => rw [hx] at h2; simp only [List.length_nil] at h2; simp [← h2]
    | cons b l => rw [hx] at h2; simp only [List.length_cons] at h2; simp [rn, ← h2]
  | succ m ih =>
    intro i k hi hk
    obtain ⟨k, rfl⟩ : ∃ q, k = q + 1 := ⟨k - 1, by omega⟩
    have e2 : wrap64 ((i : Int) + 1) = ((i + 1 : Nat) : Int) := by unfold wrap64; omega
    rw [impl_isDigits.l0, if_pos (by omega), if_pos (by omega), if_pos (by omega)]
    by_cases hd : lqd x i = true
    · have h := (lqd_iff x i).mp hd
      rw [if_neg (by omega), if_neg (by omega), e2, ih (i + 1) k (by omega) (by omega), rn, if_pos hd]
      congr 1
      rw [decide_eq_decide]
      omega
    · rw [rn, if_neg hd]
      have h := mt (lqd_iff x i).mpr hd
      rw [show decide (0 = m + 1 ∧ x.size ≠ 0) = false from decide_eq_false (by omega)]
      by_cases c1 : bt x (i : Int) < 48
      · rw [if_pos c1]
      · rw [if_neg c1, if_pos (by omega)]
theorem lq_idf (x : ByteArray) (hx : x.size ≤ 1048576) (k : Nat) (hk : x.size < k) : impl_isDigits.f k x = some (decide (rn x x.size 0 = x.size ∧ x.size ≠ 0)) :=
  lq_id x hx x.size 0 k (by omega) hk
theorem lq_one (x : ByteArray) : x.toList = ([48] : List UInt8) ↔ x.size = 1 ∧ bt x 0 = 48 := by
  rw [Lib.toList_data]
  have h2 : x.data.toList.length = x.size := Array.length_toList
  have hb : ∀ h : 0 < x.size, bt x 0 = (((x.data.toList[0]'(by omega)) : UInt8).toNat : Int) := fun h => by
    unfold bt; rw [dif_pos (show (0 : Int).toNat < x.size from h)]; rfl
  constructor
  · intro h
    have h3 : x.size = 1 := by rw [← h2, h]; rfl
    refine ⟨h3, ?_⟩
    rw [hb (by omega)]
    have : x.data.toList[0]'(by omega) = 48 := by simp [h]
    rw [this]; rfl
  · intro ⟨h3, h4⟩
    rw [hb (by omega)] at h4
    match hl : x.data.toList, h2 with
    | [b], _ =>
      have e : x.data.toList[0]'(by omega) = b := by simp [hl]
      rw [e] at h4
      have : b = 48 := UInt8.toNat.inj (by rw [show (48 : UInt8).toNat = 48 from rfl]; omega)
      rw [this]
    | [], h5 => rw [h3] at h5; cases h5
    | _ :: _ :: _, h5 => rw [h3] at h5; simp at h5
theorem lq_wd (x : ByteArray) (hx : x.size ≤ 1048576) (k : Nat) (hk : x.size < k) : impl_wholeDigits.f k x = some (decide (rn x x.size 0 = x.size ∧ x.size ≠ 0 ∧ (x.size = 1 ∨ bt x 0 ≠ 48))) := by
  unfold impl_wholeDigits.f
  rw [lq_idf x hx k hk, Option.bind_some]
  by_cases h : rn x x.size 0 = x.size ∧ x.size ≠ 0
  · rw [decide_eq_true h, if_pos rfl]
    by_cases h1 : x.toList = ([48] : List UInt8)
    · rw [if_pos h1, decide_eq_true ⟨h.1, h.2, .inl ((lq_one x).mp h1).1⟩]
    · rw [if_neg h1, if_pos (by omega)]
      have h2 := mt (lq_one x).mpr h1
      congr 1
      by_cases h3 : bt x 0 = 48
      · rw [h3, decide_eq_false (by omega)]; rfl
      · rw [decide_eq_true ⟨h.1, h.2, .inr h3⟩]; exact bne_iff_ne.mpr h3
  · rw [decide_eq_false h, if_neg (by decide), decide_eq_false (by omega)]
theorem lq_extract (s : ByteArray) (a b : Nat) (h1 : a ≤ b) (h2 : b ≤ s.size) : (s.extract a b).size = b - a ∧ ∀ j : Nat, j < b - a → bt (s.extract a b) (j : Int) = bt s ((a + j : Nat) : Int) := by
  have hz : (s.extract a b).size = b - a := by rw [ByteArray.size_extract]; omega
  refine ⟨hz, fun j hj => ?_⟩
  unfold bt
  rw [dif_pos (show ((j : Int)).toNat < (s.extract a b).size by rw [hz]; omega), dif_pos (show (((a + j : Nat) : Int)).toNat < s.size by omega)]
  simp only [Int.toNat_natCast]
  rw [ByteArray.getElem_extract]
theorem lq_at (s : ByteArray) (j : Nat) (h : j < s.size) : ∃ b : UInt8, s.data.toList[j]? = some b ∧ bt s (j : Int) = (b.toNat : Int) := by
  have h2 : s.data.toList.length = s.size := Array.length_toList
  refine ⟨s[j], ?_, ?_⟩
  · rw [List.getElem?_eq_getElem (by omega)]; rfl
  · unfold bt; rw [dif_pos (show ((j : Int)).toNat < s.size by omega)]; rfl
/-- What a cut at the byte c gives. -/
structure Cut (c : UInt8) (s : ByteArray) (p : Nat) : Prop where
  le : p ≤ s.size
  ne : ∀ j, j < p → bt s (j : Int) ≠ (c.toNat : Int)
  hit : p < s.size → bt s (p : Int) = (c.toNat : Int)
  flag : (SLit.cutb c s).2.2 = decide (p < s.size)
  s1 : (SLit.cutb c s).1.size = p
  b1 : ∀ j : Nat, j < p → bt (SLit.cutb c s).1 (j : Int) = bt s (j : Int)
  s2 : (SLit.cutb c s).2.1.size = s.size - p - 1
  b2 : ∀ j : Nat, j < s.size - p - 1 → bt (SLit.cutb c s).2.1 (j : Int) = bt s ((p + 1 + j : Nat) : Int)
theorem lq_cut (c : UInt8) (s : ByteArray) : ∃ p, Cut c s p := by
  rcases SLit.index_cases c s with hix | ⟨i, hix, hroom⟩
  · have e : SLit.cutb c s = (s, ⟨#[]⟩, false) := by unfold SLit.cutb; rw [if_pos hix]
    have hn := Lib.indexByte_none hix
    refine ⟨s.size, ⟨Nat.le_refl _, fun j hj he => ?_, fun h => absurd h (Nat.lt_irrefl _), ?_, ?_, ?_, ?_, ?_⟩⟩
    · obtain ⟨b, hb, hb2⟩ := lq_at s j hj
      refine hn j (hb.trans ?_)
      rw [hb2] at he
      exact congrArg some (UInt8.toNat.inj (by omega))
    · rw [e]; exact (decide_eq_false (Nat.lt_irrefl _)).symm
    · rw [e]
    · intro j hj; rw [e]
    · rw [e, show s.size - s.size - 1 = 0 by omega]; rfl
    · intro j hj; omega
  · have e : SLit.cutb c s = (s.extract 0 i, s.extract (i + 1) s.size, true) := by unfold SLit.cutb; rw [if_neg (by omega), hix]; rfl
    obtain ⟨hs1, hs2⟩ := Lib.indexByte_some hix
    obtain ⟨x1, x2⟩ := lq_extract s 0 i (Nat.zero_le _) (by omega)
    obtain ⟨y1, y2⟩ := lq_extract s (i + 1) s.size hroom (Nat.le_refl _)
    refine ⟨i, ⟨by omega, fun j hj he => ?_, fun _ => ?_, ?_, ?_, ?_, ?_, ?_⟩⟩
    · obtain ⟨b, hb, hb2⟩ := lq_at s j (by omega)
      refine hs2 j hj (hb.trans ?_)
      rw [hb2] at he
      exact congrArg some (UInt8.toNat.inj (by omega))
    · obtain ⟨b, hb, hb2⟩ := lq_at s i (by omega)
      rw [hb2]
      have := Option.some.inj (hb.symm.trans hs1)
      rw [this]
    · rw [e]; exact (decide_eq_true (by omega)).symm
    · rw [e]; exact x1.trans (Nat.sub_zero _)
    · intro j hj; rw [e]; exact (x2 j (by omega)).trans (by rw [Nat.zero_add])
    · rw [e]; exact y1.trans (by omega)
    · intro j hj; rw [e]; exact y2 j (by omega)
def lqv (s : ByteArray) (a : Nat) : Nat → Nat
  | 0 => 0
  | k + 1 => lqv s a k * 10 + (bt s ((a + k : Nat) : Int) - 48).toNat
def lqP2 (s : ByteArray) (mi : Bool) (a : Nat) : Bool := decide (1 ≤ run s a ∧ run s a ≤ 3 ∧ ¬ (1 < run s a ∧ bt s (a : Int) = 48) ∧ ¬ (mi = true ∧ bt s (a : Int) = 48) ∧ lqv s a (run s a) ≤ 400 ∧ a + run s a = s.size)
def lqP (s : ByteArray) (a : Nat) : Bool := if a < s.size ∧ bt s (a : Int) = 45 then lqP2 s true (a + 1) else lqP2 s false a
def lqT (s : ByteArray) (a : Nat) : Bool := if a < s.size ∧ bt s (a : Int) = 101 then lqP s (a + 1) else decide (a = s.size)
def lqQ (s : ByteArray) : Bool := if run s 0 = 0 ∨ (1 < run s 0 ∧ bt s 0 = 48) then false else if run s 0 < s.size ∧ bt s (run s 0 : Int) = 46 then (if run s (run s 0 + 1) = 0 then false else lqT s (run s 0 + 1 + run s (run s 0 + 1))) else lqT s (run s 0)
theorem lq_minus (x : ByteArray) : SLit.minus x = decide (0 < x.size ∧ bt x 0 = 45) := by
  unfold SLit.minus Lib.hasPrefix
  by_cases h : 0 < x.size
  · obtain ⟨b, hb, hb2⟩ := lq_at x 0 h
    rw [show ((0 : Nat) : Int) = 0 from rfl] at hb2
    cases hl : x.data.toList with
    | nil => rw [hl] at hb; cases hb
    | cons d l =>
      rw [hl] at hb
      have hbd : d = b := Option.some.inj hb
      subst hbd
      rw [hb2]
      by_cases hd : d = 45
      · subst hd; rw [decide_eq_true ⟨h, rfl⟩]; rfl
      · have : ¬ (d.toNat : Int) = 45 := fun e => hd (UInt8.toNat.inj (by rw [show (45 : UInt8).toNat = 45 from rfl]; omega))
        rw [decide_eq_false (fun e => this e.2)]
        simp [List.isPrefixOf, Ne.symm hd]
  · rw [decide_eq_false (fun e => h e.1)]
    have h2 : x.data.toList.length = x.size := Array.length_toList
    cases hl : x.data.toList with
    | nil => rfl
    | cons d l => rw [hl] at h2; simp only [List.length_cons] at h2; omega
theorem lq_after (x : ByteArray) : (SLit.after x).size = x.size - (if SLit.minus x = true then 1 else 0) ∧ ∀ j : Nat, j < (SLit.after x).size → bt (SLit.after x) (j : Int) = bt x ((j + (if SLit.minus x = true then 1 else 0) : Nat) : Int) := by
  have h2 : x.data.toList.length = x.size := Array.length_toList
  have hB : ∀ (l : List UInt8) (j : Nat) (h : j < l.length), bt (⟨l.toArray⟩ : ByteArray) (j : Int) = ((l[j]).toNat : Int) := fun l j h => by
    unfold bt
    rw [dif_pos (show ((j : Int)).toNat < (⟨l.toArray⟩ : ByteArray).size by show _ < l.toArray.size; simpa using h)]
    rfl
  have hX : (⟨x.data.toList.toArray⟩ : ByteArray) = x := by cases x; simp
  unfold SLit.after Lib.trimPrefix
  by_cases hm : SLit.minus x = true
  · have hm' : Lib.hasPrefix x.data.toList [45] = true := hm
    rw [if_pos hm', if_pos hm]
    cases hl : x.data.toList with
    | nil => rw [hl] at hm'; exact absurd hm' (by decide)
    | cons d l =>
      rw [hl] at h2
      simp only [List.length_cons] at h2
      refine ⟨by show (List.drop 1 (d :: l)).toArray.size = _; simp; omega, fun j hj => ?_⟩
      have hj' : j < l.length := by have : j < (List.drop 1 (d :: l)).toArray.size := hj; simpa using this
      rw [← hX, hl]
      rw [show ([45] : List UInt8).length = 1 from rfl, hB _ _ (by simpa using hj'), hB _ _ (by simp; omega)]
      simp
  · have hm' : ¬ Lib.hasPrefix x.data.toList [45] = true := hm
    rw [if_neg hm', if_neg hm, hX]
    exact ⟨rfl, fun j hj => by rw [Nat.add_zero]⟩
theorem lq_pu (acc : Nat) (b : UInt8) (l : List UInt8) (h : 48 ≤ b.toNat ∧ b.toNat ≤ 57) (ha : acc ≤ 1000) : Lib.parseUint10 acc (b :: l) = Lib.parseUint10 (acc * 10 + (b.toNat - 48)) l := by
  rw [Lib.parseUint10, if_pos h, if_neg (by omega), if_neg (by omega)]
theorem lq_at1 (c : UInt8) (r : List UInt8) (u : Nat) (hc : c.toNat ≠ 43 ∧ c.toNat ≠ 45) (h : Lib.parseUint10 0 (c :: r) = .ok u) (hu : u ≤ 99999) : Lib.atoiAll (c :: r) = .ok (u : Int) := by
  have h1 : ¬ (c.toNat = 43 ∨ c.toNat = 45) := by omega
  have h2 : Lib.parseMag (c :: r) = .ok u := by unfold Lib.parseMag; rw [if_neg (by simp), h]
  simp only [Lib.atoiAll, if_neg h1, h2]
  rw [if_neg (by omega), if_neg (by omega), if_neg hc.2]
theorem lq_atoi (x : ByteArray) (h1 : 1 ≤ x.size) (h3 : x.size ≤ 3) (hd : ∀ j, j < x.size → lqd x j = true) : Lib.atoiAll x.data.toList = .ok (lqv x 0 x.size : Int) := by
  have h2 : x.data.toList.length = x.size := Array.length_toList
  have hb : ∀ j, j < x.size → ∃ b : UInt8, x.data.toList[j]? = some b ∧ bt x (j : Int) = (b.toNat : Int) ∧ 48 ≤ b.toNat ∧ b.toNat ≤ 57 := fun j hj => by
    obtain ⟨b, p, q⟩ := lq_at x j hj
    have := (lqd_iff x j).mp (hd j hj)
    exact ⟨b, p, q, by omega, by omega⟩
  generalize x.size = n at h1 h2 h3 hb
  match hl : x.data.toList, n, h2 with
  | [b0], 1, _ =>
    obtain ⟨c0, p0, q0, r0, t0⟩ := hb 0 (by omega)
    rw [hl] at p0; obtain rfl : b0 = c0 := Option.some.inj p0
    refine lq_at1 b0 [] _ (by omega) ?_ (by simp only [lqv, Nat.add_zero, q0]; omega)
    rw [lq_pu _ _ _ ⟨r0, t0⟩ (by omega), Lib.parseUint10]
    simp only [lqv, Nat.add_zero, q0]
    congr 1; omega
  | [b0, b1], 2, _ =>
    obtain ⟨c0, p0, q0, r0, t0⟩ := hb 0 (by omega)
    obtain ⟨c1, p1, q1, r1, t1⟩ := hb 1 (by omega)
    rw [hl] at p0 p1; obtain rfl : b0 = c0 := Option.some.inj p0; obtain rfl : b1 = c1 := Option.some.inj p1
    refine lq_at1 b0 [b1] _ (by omega) ?_ (by simp only [lqv, Nat.add_zero, Nat.zero_add, q0, q1]; omega)
    rw [lq_pu _ _ _ ⟨r0, t0⟩ (by omega), lq_pu _ _ _ ⟨r1, t1⟩ (by omega), Lib.parseUint10]
    simp only [lqv, Nat.add_zero, Nat.zero_add, q0, q1]
    congr 1; omega
  | [b0, b1, b2], 3, _ =>
    obtain ⟨c0, p0, q0, r0, t0⟩ := hb 0 (by omega)
    obtain ⟨c1, p1, q1, r1, t1⟩ := hb 1 (by omega)
    obtain ⟨c2, p2, q2, r2, t2⟩ := hb 2 (by omega)
    rw [hl] at p0 p1 p2; obtain rfl : b0 = c0 := Option.some.inj p0; obtain rfl : b1 = c1 := Option.some.inj p1; obtain rfl : b2 = c2 := Option.some.inj p2
    refine lq_at1 b0 [b1, b2] _ (by omega) ?_ (by simp only [lqv, Nat.add_zero, Nat.zero_add, q0, q1, q2]; omega)
    rw [lq_pu _ _ _ ⟨r0, t0⟩ (by omega), lq_pu _ _ _ ⟨r1, t1⟩ (by omega), lq_pu _ _ _ ⟨r2, t2⟩ (by omega), Lib.parseUint10]
    simp only [lqv, Nat.add_zero, Nat.zero_add, q0, q1, q2]
    congr 1; omega
  | [], _, h => simp only [List.length_nil] at h; omega
  | b0 :: b1 :: b2 :: b3 :: l, _, h => simp only [List.length_cons] at h; omega
theorem run_le (s : ByteArray) (a : Nat) : run s a ≤ s.size - a := rn_le s _ a
theorem run_dig (s : ByteArray) (a j : Nat) (h : j < run s a) : 48 ≤ bt s ((a + j : Nat) : Int) ∧ bt s ((a + j : Nat) : Int) ≤ 57 := (lqd_iff s (a + j)).mp (rn_dig s _ a j h)
theorem rn_run (s : ByteArray) (m a : Nat) (h : a + m ≤ s.size) : rn s m a = m ↔ m ≤ run s a := by
  have h1 := rn_cut s m (s.size - a) a (by omega)
  rw [show rn s (s.size - a) a = run s a from rfl] at h1
  rw [h1]
  split <;> omega
theorem sub_rn (s x : ByteArray) (a : Nat) (h : a + x.size ≤ s.size) (hx : ∀ j : Nat, j < x.size → bt x (j : Int) = bt s ((a + j : Nat) : Int)) : rn x x.size 0 = x.size ↔ x.size ≤ run s a := by
  have h1 := rn_eq s x a x.size 0 (fun j hj => by rw [Nat.zero_add, Nat.add_zero]; exact hx j hj)
  rw [h1, Nat.add_zero]
  exact rn_run s x.size a h
theorem sub_lqv (s x : ByteArray) (a : Nat) (hx : ∀ j : Nat, j < x.size → bt x (j : Int) = bt s ((a + j : Nat) : Int)) : ∀ k, k ≤ x.size → lqv x 0 k = lqv s a k := by
  intro k
  induction k with
  | zero => intro _; rfl
  | succ k ih =>
    intro h
    rw [lqv, lqv, ih (by omega), Nat.zero_add, hx k (by omega)]
theorem lqv_pos (s : ByteArray) (a : Nat) (h : 49 ≤ bt s (a : Int)) : ∀ k, 1 ≤ k → 0 < lqv s a k := by
  intro k
  induction k with
  | zero => intro h; omega
  | succ k ih =>
    intro _
    rw [lqv]
    rcases Nat.eq_zero_or_pos k with rfl | hk
    · rw [Nat.add_zero]; omega
    · have := ih hk; omega
/-- The power, told by the program and by places. -/
theorem lq_pow (s pw ah be : ByteArray) (E k : Nat) (hE : E < s.size) (hk : s.size + 5 ≤ k) (hs : s.size ≤ 1048576) (z : pw.size = s.size - E - 1) (hb : ∀ j : Nat, j < s.size - E - 1 → bt pw (j : Int) = bt s ((E + 1 + j : Nat) : Int)) : ∃ p q r, impl_literal.p k ah be pw = some (p, q, r, lqP s (E + 1)) ∧ (lqP s (E + 1) = true → p = ah ∧ q = be) := by
  unfold impl_literal.p
  obtain ⟨az, ab⟩ := lq_after pw
  have hmi : SLit.minus pw = decide (E + 1 < s.size ∧ bt s ((E + 1 : Nat) : Int) = 45) := by
    rw [lq_minus]
    by_cases h : 0 < pw.size
    · have h0 := hb 0 (by omega)
      rw [Nat.add_zero] at h0
      rw [show bt pw 0 = bt s ((E + 1 : Nat) : Int) from h0]
      congr 1
      simp only [eq_iff_iff]
      constructor
      · intro ⟨_, h2⟩; exact ⟨by omega, h2⟩
      · intro ⟨_, h2⟩; exact ⟨h, h2⟩
    · rw [decide_eq_false (by omega), decide_eq_false (by omega)]
  obtain ⟨mi, hmi'⟩ : ∃ mi, mi = SLit.minus pw := ⟨_, rfl⟩
  rw [← hmi'] at hmi az ab ⊢
  obtain ⟨a, ha⟩ : ∃ a, a = E + 1 + (if mi = true then 1 else 0) := ⟨_, rfl⟩
  have hP : lqP s (E + 1) = lqP2 s mi a := by
    unfold lqP
    cases mi with
    | true =>
      have := of_decide_eq_true hmi.symm
      rw [if_pos this, ha, if_pos rfl]
    | false =>
      have := of_decide_eq_false hmi.symm
      rw [if_neg this, ha, if_neg (by decide), Nat.add_zero]
  have ale : a ≤ s.size := by
    rw [ha]
    cases mi with
    | true => have := of_decide_eq_true hmi.symm; rw [if_pos rfl]; omega
    | false => rw [if_neg (by decide)]; omega
  have dz : (SLit.after pw).size = s.size - a := by rw [az, z, ha]; split <;> omega
  have db : ∀ j : Nat, j < (SLit.after pw).size → bt (SLit.after pw) (j : Int) = bt s ((a + j : Nat) : Int) := fun j hj => by
    rw [ab j hj, hb _ (by rw [dz] at hj; rw [ha] at hj; split at hj <;> (split <;> first | omega | simp_all))]
    congr 2
    rw [ha]; omega
  clear az ab hmi'
  rw [hP]
  generalize SLit.after pw = dg at dz db ⊢
  have hw := lq_wd dg (by omega) k (by omega)
  have hsr := sub_rn s dg a (by omega) db
  have rl := run_le s a
  have b0 : 0 < dg.size → bt dg 0 = bt s (a : Int) := fun h => db 0 h
  by_cases good : dg.size ≤ run s a ∧ 1 ≤ dg.size ∧ dg.size ≤ 3 ∧ (dg.size = 1 ∨ bt s (a : Int) ≠ 48)
  · obtain ⟨g1, g2, g3, g4⟩ := good
    have hr : run s a = dg.size := by omega
    have hd0 := run_dig s a 0 (by omega)
    rw [Nat.add_zero] at hd0
    have hat := lq_atoi dg g2 g3 (fun j hj => by rw [lqd_iff, db j hj]; exact run_dig s a j (by omega))
    have hv := sub_lqv s dg a db dg.size (Nat.le_refl _)
    rw [hv] at hat
    have whole : rn dg dg.size 0 = dg.size ∧ dg.size ≠ 0 ∧ (dg.size = 1 ∨ bt dg 0 ≠ 48) := ⟨hsr.mpr g1, by omega, by rw [b0 g2]; exact g4⟩
    have hz : mi = true ∧ bt s (a : Int) = 48 ↔ mi = true ∧ ((lqv s a dg.size : Nat) : Int) = 0 := by
      constructor
      · intro ⟨h1, h2⟩
        refine ⟨h1, ?_⟩
        have h3 : dg.size = 1 := by rcases g4 with h | h; exact h; exact absurd h2 h
        rw [h3]; simp only [lqv, Nat.add_zero, h2]; rfl
      · intro ⟨h1, h2⟩
        refine ⟨h1, Classical.byContradiction fun h3 => ?_⟩
        have := lqv_pos s a (by omega) dg.size g2
        omega
    rw [hat]
    simp only [hw, decide_eq_true whole, Option.bind_some]
    unfold lqP2
    rw [hr]
    by_cases q : lqv s a dg.size ≤ 400 ∧ ¬ (mi = true ∧ bt s (a : Int) = 48)
    · rw [if_pos ⟨by first | trivial | rfl, g3, by omega, by rw [← hz]; exact q.2⟩, decide_eq_true (show _ from ⟨g2, g3, by omega, q.2, q.1, by omega⟩)]
      exact ⟨_, _, _, rfl, fun _ => ⟨rfl, rfl⟩⟩
    · rw [if_neg (fun h => q ⟨by omega, by rw [hz]; exact h.2.2.2⟩), decide_eq_false (fun h => q ⟨h.2.2.2.2.1, h.2.2.2.1⟩)]
      exact ⟨_, _, _, rfl, fun h => by cases h⟩
  · have e : lqP2 s mi a = false := by
      unfold lqP2
      refine decide_eq_false fun h => good ⟨by omega, by omega, by omega, ?_⟩
      have h3 := h.2.2.1
      by_cases c : bt s (a : Int) = 48
      · left; have : ¬ 1 < run s a := fun h4 => h3 ⟨h4, c⟩
        omega
      · exact .inr c
    rw [e]
    cases hat : Lib.atoiAll dg.data.toList with
    | ok v =>
      simp only [hw, Option.bind_some]
      rw [if_neg (fun h => ?_)]
      · exact ⟨_, _, _, rfl, fun h => by cases h⟩
      · have h1 := of_decide_eq_true h.1
        refine good ⟨hsr.mp h1.1, by omega, h.2.1, ?_⟩
        have := h1.2.2
        rw [b0 (by omega)] at this
        exact this
    | _ => exact ⟨_, _, _, rfl, fun h => by cases h⟩
theorem lq_lit (s : ByteArray) (hs : s.size ≤ 1048576) (k : Nat) (hk : s.size + 5 ≤ k) : ∃ a b p, impl_literal.f k s = some (a, b, p, lqQ s) := by
  obtain ⟨E, ce⟩ := lq_cut 101 s
  obtain ⟨P, cp⟩ := lq_cut 46 (SLit.cutb 101 s).1
  unfold impl_literal.f
  rw [if_pos (by omega)]
  obtain ⟨le1, ne1, hit1, fl1, s11, b11, s12, b12⟩ := ce
  obtain ⟨le2, ne2, hit2, fl2, s21, b21, s22, b22⟩ := cp
  rw [s11] at le2 hit2 fl2 s22 b22
  generalize (SLit.cutb 46 (SLit.cutb 101 s).1).1 = ah at *
  generalize (SLit.cutb 46 (SLit.cutb 101 s).1).2.1 = be at *
  generalize (SLit.cutb 46 (SLit.cutb 101 s).1).2.2 = pt at *
  generalize (SLit.cutb 101 s).1 = bo at *
  generalize (SLit.cutb 101 s).2.1 = pw at *
  generalize (SLit.cutb 101 s).2.2 = hp at *
  have ne3 : ∀ j, j < P → bt s (j : Int) ≠ 46 := fun j hj => by have := ne2 j hj; rw [b11 j (by omega)] at this; exact this
  have hit3 : P < E → bt s (P : Int) = 46 := fun h => by have := hit2 h; rw [b11 P h] at this; exact this
  have a1 : ∀ j : Nat, j < ah.size → bt ah (j : Int) = bt s ((0 + j : Nat) : Int) := fun j hj => by rw [b21 j (by omega), b11 j (by omega), Nat.zero_add]
  have e1 : ∀ j : Nat, j < be.size → bt be (j : Int) = bt s ((P + 1 + j : Nat) : Int) := fun j hj => by rw [b22 j (by omega), b11 _ (by omega)]
  have hw := lq_wd ah (by omega) k (by omega)
  have hsr := sub_rn s ah 0 (by omega) a1
  have rl := run_le s 0
  have rd0 := fun j hj => run_dig s 0 j hj
  simp only [Nat.zero_add] at rd0
  have hrP : run s 0 ≤ P := Nat.le_of_not_lt fun h => by
    have hd := rd0 P h
    by_cases h1 : P < E
    · have := hit3 h1; omega
    · have := hit1 (by omega)
      rw [show E = P by omega] at this
      have h5 : ((101 : UInt8).toNat : Int) = 101 := rfl
      omega
  have h101 : ((101 : UInt8).toNat : Int) = 101 := rfl
  rw [h101] at hit1 ne1
  have ba : 0 < P → bt ah 0 = bt s 0 := fun h => (a1 0 (by omega)).trans (by rw [Nat.zero_add]; rfl)
  unfold impl_literal.q lqQ
  rw [hw, Option.bind_some]
  rw [s21] at hsr ⊢
  rw [s21] at hw
  by_cases q0 : run s 0 = 0 ∨ (1 < run s 0 ∧ bt s 0 = 48)
  · rw [if_pos q0, decide_eq_false (fun h => ?_), if_neg (show ¬ (false = true) by decide)]
    · exact ⟨_, _, _, rfl⟩
    · obtain ⟨h1, h2, h3⟩ := h
      have h4 := hsr.mp h1
      rw [ba (by omega)] at h3
      omega
  · rw [if_neg q0]
    by_cases q1 : P = run s 0
    · rw [decide_eq_true (show _ from ⟨hsr.mpr (by omega), by omega, by rw [ba (by omega)]; omega⟩), if_pos (show true = true from rfl), ← q1]
      by_cases q2 : P < E
      · have f46 := hit3 q2
        have id := lq_idf be (by omega) k (by omega)
        have hbr := sub_rn s be (P + 1) (by omega) e1
        rw [fl2, decide_eq_true q2, if_pos (show true = true from rfl), if_pos (show P < s.size ∧ bt s (P : Int) = 46 from ⟨by omega, f46⟩), id, Option.bind_some]
        have r1 := run_le s (P + 1)
        have rd1 := fun j hj => run_dig s (P + 1) j hj
        have hr1 : P + 1 + run s (P + 1) ≤ E := Nat.le_of_not_lt fun h => by
          have hd := rd1 (E - P - 1) (by omega)
          rw [show P + 1 + (E - P - 1) = E by omega] at hd
          have := hit1 (by omega)
          omega
        by_cases q3 : run s (P + 1) = 0
        · rw [if_pos q3, decide_eq_false (fun h => by have := hbr.mp h.1; omega), if_neg (show ¬ (false = true) by decide)]
          exact ⟨_, _, _, rfl⟩
        · rw [if_neg q3]
          by_cases q4 : P + 1 + run s (P + 1) = E
          · rw [decide_eq_true (show _ from ⟨hbr.mpr (by omega), by omega⟩), if_pos (show true = true from rfl), q4, fl1]
            unfold lqT
            by_cases q5 : E < s.size
            · rw [decide_eq_true q5, if_pos (show true = true from rfl), if_pos (show E < s.size ∧ bt s (E : Int) = 101 from ⟨q5, hit1 q5⟩)]
              obtain ⟨p, q, r, hh, _⟩ := lq_pow s pw ah be E k q5 hk hs s12 b12
              exact ⟨p, q, r, hh⟩
            · rw [decide_eq_false q5, if_neg (show ¬ (false = true) by decide), if_neg (show ¬ (E < s.size ∧ bt s (E : Int) = 101) from fun h => q5 h.1), decide_eq_true (show E = s.size by omega)]
              exact ⟨_, _, _, rfl⟩
          · have n1 := ne1 (P + 1 + run s (P + 1)) (by clear hbr hsr hit1 hit2 hit3 q0; omega)
            have n2 : ¬ (P + 1 + run s (P + 1) = s.size) := by clear hbr hsr hit1 hit2 hit3 q0; omega
            have n3 : ¬ (rn be be.size 0 = be.size ∧ be.size ≠ 0) := fun h => by
              have h6 := hbr.mp h.1
              clear hbr hsr hit1 hit2 hit3 q0
              omega
            rw [decide_eq_false n3, if_neg (show ¬ (false = true) by decide)]
            unfold lqT
            rw [if_neg (fun h => n1 h.2), decide_eq_false n2]
            exact ⟨_, _, _, rfl⟩
      · have hPE : P = E := by omega
        rw [fl2, decide_eq_false q2, if_neg (show ¬ (false = true) by decide), Option.bind_some, if_pos (show true = true from rfl), fl1]
        rw [if_neg (show ¬ (P < s.size ∧ bt s (P : Int) = 46) from fun h => by have := hit1 (by omega); rw [← hPE] at this; omega)]
        unfold lqT
        rw [hPE]
        by_cases q5 : E < s.size
        · rw [decide_eq_true q5, if_pos (show true = true from rfl), if_pos (show E < s.size ∧ bt s (E : Int) = 101 from ⟨q5, hit1 q5⟩)]
          obtain ⟨p, q, r, hh, _⟩ := lq_pow s pw ah be E k q5 hk hs s12 b12
          exact ⟨p, q, r, hh⟩
        · rw [decide_eq_false q5, if_neg (show ¬ (false = true) by decide), if_neg (show ¬ (E < s.size ∧ bt s (E : Int) = 101) from fun h => q5 h.1), decide_eq_true (show E = s.size by omega)]
          exact ⟨_, _, _, rfl⟩
    · rw [decide_eq_false (fun h => by have := hsr.mp h.1; omega), if_neg (show ¬ (false = true) by decide)]
      rw [if_neg (show ¬ (run s 0 < s.size ∧ bt s (run s 0 : Int) = 46) from fun h => ne3 _ (by omega) h.2)]
      unfold lqT
      rw [if_neg (show ¬ (run s 0 < s.size ∧ bt s (run s 0 : Int) = 101) from fun h => ne1 _ (by omega) h.2), decide_eq_false (show ¬ (run s 0 = s.size) by omega)]
      exact ⟨_, _, _, rfl⟩
theorem s7_run (s : ByteArray) (hs : s.size ≤ 1048576) : ∀ (m a n0 k : Nat), a + n0 + m = s.size → m < k → spec_l7Digits.l0 k s (a : Int) (n0 : Int) = some (((n0 + rn s m (a + n0) : Nat)) : Int) := by
  intro m
  induction m with
  | zero =>
    intro a n0 k hi hk
    obtain ⟨k, rfl⟩ : ∃ q, k = q + 1 := ⟨k - 1, by omega⟩
    have e1 : wrap64 ((a : Int) + (n0 : Int)) = ((a + n0 : Nat) : Int) := by unfold wrap64; omega
    rw [spec_l7Digits.l0, e1, if_neg (by omega)]
    rfl
  | succ m ih =>
    intro a n0 k hi hk
    obtain ⟨k, rfl⟩ : ∃ q, k = q + 1 := ⟨k - 1, by omega⟩
    have e1 : wrap64 ((a : Int) + (n0 : Int)) = ((a + n0 : Nat) : Int) := by unfold wrap64; omega
    have e2 : wrap64 ((n0 : Int) + 1) = ((n0 + 1 : Nat) : Int) := by unfold wrap64; omega
    rw [spec_l7Digits.l0, e1, if_pos (by omega), if_pos (by omega)]
    by_cases hd : lqd s (a + n0) = true
    · have h := (lqd_iff s (a + n0)).mp hd
      rw [if_pos (by omega), if_pos (by omega), e2, ih a (n0 + 1) k (by omega) (by omega), rn, if_pos hd]
      congr 2
      rw [show a + (n0 + 1) = a + n0 + 1 by omega]; omega
    · have h := mt (lqd_iff s (a + n0)).mpr hd
      rw [rn, if_neg hd]
      by_cases c1 : bt s ((a + n0 : Nat) : Int) ≥ 48
      · rw [if_pos c1, if_neg (by omega)]; rfl
      · rw [if_neg c1]; rfl
theorem s7_runf (s : ByteArray) (hs : s.size ≤ 1048576) (a k : Nat) (ha : a ≤ s.size) (hk : s.size < k) : spec_l7Digits.f k s (a : Int) = some ((run s a : Nat) : Int) := by
  have h := s7_run s hs (s.size - a) a 0 k (by omega) (by omega)
  rw [Nat.zero_add, Nat.add_zero] at h
  exact h
theorem lqv_lt (s : ByteArray) (a : Nat) : ∀ i, (∀ j, j < i → 48 ≤ bt s ((a + j : Nat) : Int) ∧ bt s ((a + j : Nat) : Int) ≤ 57) → lqv s a i + 1 ≤ 10 ^ i := by
  intro i
  induction i with
  | zero => intro _; exact Nat.le_refl _
  | succ i ih =>
    intro h
    have h1 := ih (fun j hj => h j (by omega))
    have h2 := h i (by omega)
    rw [lqv, Nat.pow_succ]
    omega
theorem s7_l0 (s x7 : ByteArray) (x8 : Int) (mi : Bool) (a kk : Nat) (hs : s.size ≤ 1048576) (h3 : kk ≤ 3) (ha : a + kk ≤ s.size) (hd : ∀ j, j < kk → 48 ≤ bt s ((a + j : Nat) : Int) ∧ bt s ((a + j : Nat) : Int) ≤ 57) (R : Option (ByteArray × Int × Int × Bool)) (hR : R = (if (lqv s a kk : Int) > 400 then (some ((⟨#[]⟩ : ByteArray), 0, 0, false)) else (if mi = true then (some (x7, x8, wrap64 (-(lqv s a kk : Int)), (((a + kk : Nat) : Int) == (s.size : Int)))) else (some (x7, x8, (lqv s a kk : Int), (((a + kk : Nat) : Int) == (s.size : Int))))))) : ∀ (m i k : Nat), i + m = kk → m < k → spec_l7Parts.l0 k s x7 x8 (a : Int) (lqv s a i : Int) mi (kk : Int) ((a + i : Nat) : Int) = R := by
  intro m
  induction m with
  | zero =>
    intro i k hi hk
    obtain ⟨k, rfl⟩ : ∃ q, k = q + 1 := ⟨k - 1, by omega⟩
    have e1 : wrap64 ((a : Int) + (kk : Int)) = ((a + kk : Nat) : Int) := by unfold wrap64; omega
    obtain rfl : i = kk := by omega
    rw [spec_l7Parts.l0, e1, if_neg (show ¬ ((a + i : Nat) : Int) < ((a + i : Nat) : Int) from Int.lt_irrefl _), hR]
  | succ m ih =>
    intro i k hi hk
    obtain ⟨k, rfl⟩ : ∃ q, k = q + 1 := ⟨k - 1, by omega⟩
    have g1 : i + 1 + m = kk := by omega
    have g2 : m < k := by omega
    have e1 : wrap64 ((a : Int) + (kk : Int)) = ((a + kk : Nat) : Int) := by unfold wrap64; omega
    have h1 := lqv_lt s a i (fun j hj => hd j (by omega))
    have h2 : (10 : Nat) ^ i ≤ 10 ^ 3 := Nat.pow_le_pow_right (by decide) (by omega)
    have h4 := hd i (by omega)
    have h5 : (lqv s a i : Int) ≤ 1000 := by
      have h6 : (10 : Nat) ^ 3 = 1000 := rfl
      rw [h6] at h2
      generalize (10 : Nat) ^ i = z at h1 h2
      omega
    clear h1 h2
    have e2 : wrap64 (wrap64 ((lqv s a i : Int) * 10) + ((bt s ((a + i : Nat) : Int) - 48) % 256)) = (lqv s a (i + 1) : Int) := by
      have w1 : wrap64 ((lqv s a i : Int) * 10) = (lqv s a i : Int) * 10 := by unfold wrap64; omega
      have w2 : (bt s ((a + i : Nat) : Int) - 48) % 256 = bt s ((a + i : Nat) : Int) - 48 := by omega
      rw [w1, w2, lqv]
      generalize bt s ((a + i : Nat) : Int) = z at h4 ⊢
      generalize lqv s a i = y at h5 ⊢
      clear hd w1 w2 ih
      unfold wrap64; omega
    have e3 : wrap64 (((a + i : Nat) : Int) + 1) = ((a + (i + 1) : Nat) : Int) := by unfold wrap64; omega
    have p1 : ((a + i : Nat) : Int) < ((a + kk : Nat) : Int) := by clear e2 e3; omega
    have p2 : (0 : Int) ≤ ((a + i : Nat) : Int) := Int.natCast_nonneg _
    have p3 : ((a + i : Nat) : Int) < (s.size : Int) := by clear e2 e3; omega
    rw [spec_l7Parts.l0, e1, if_pos p1, if_pos p2, if_pos p3, e2, e3]
    exact ih (i + 1) k g1 g2
theorem s7_j6 (s x7 : ByteArray) (x8 : Int) (mi : Bool) (a k : Nat) (hs : s.size ≤ 1048576) (h1 : 1 ≤ run s a) (h3 : run s a ≤ 3) (hx : ¬ (1 < run s a ∧ bt s (a : Int) = 48)) (hy : ¬ (mi = true ∧ bt s (a : Int) = 48)) (ha : a ≤ s.size) (hk : 10 ≤ k) : ∃ p, spec_l7Parts.j6 k s x7 x8 (a : Int) 0 mi (run s a : Int) false = some p ∧ p.2.2.2 = lqP2 s mi a := by
  obtain ⟨k, rfl⟩ : ∃ q, k = q + 1 := ⟨k - 1, by omega⟩
  have rl := run_le s a
  have h := s7_l0 s x7 x8 mi a (run s a) hs h3 (by omega) (fun j hj => run_dig s a j hj) _ rfl (run s a) 0 k (by omega) (by omega)
  rw [spec_l7Parts.j6, if_neg (show ¬ (false = true) by decide)]
  rw [Nat.add_zero] at h
  refine (?_ : ∃ p, spec_l7Parts.l0 k s x7 x8 (a : Int) (lqv s a 0 : Int) mi (run s a : Int) (a : Int) = some p ∧ p.2.2.2 = lqP2 s mi a)
  rw [h]
  unfold lqP2
  by_cases c : (lqv s a (run s a) : Int) > 400
  · rw [if_pos c]
    exact ⟨_, rfl, (decide_eq_false (fun g => by have := g.2.2.2.2.1; omega)).symm⟩
  · rw [if_neg c]
    have e : ((((a + run s a : Nat) : Int) == (s.size : Int))) = decide (1 ≤ run s a ∧ run s a ≤ 3 ∧ ¬ (1 < run s a ∧ bt s (a : Int) = 48) ∧ ¬ (mi = true ∧ bt s (a : Int) = 48) ∧ lqv s a (run s a) ≤ 400 ∧ a + run s a = s.size) := by
      by_cases g : a + run s a = s.size
      · rw [decide_eq_true ⟨h1, h3, hx, hy, by omega, g⟩]; exact beq_iff_eq.mpr (by omega)
      · rw [decide_eq_false (fun q => g q.2.2.2.2.2)]; exact beq_eq_false_iff_ne.mpr (by omega)
    cases mi with
    | true => rw [if_pos rfl]; exact ⟨_, rfl, e⟩
    | false => rw [if_neg (by decide)]; exact ⟨_, rfl, e⟩
theorem s7_j5 (s x7 : ByteArray) (x8 : Int) (mi : Bool) (a k : Nat) (hs : s.size ≤ 1048576) (ha : a ≤ s.size) (hk : s.size + 20 ≤ k) : ∃ p, spec_l7Parts.j5 k s x7 x8 (a : Int) 0 mi = some p ∧ p.2.2.2 = lqP2 s mi a := by
  obtain ⟨k, rfl⟩ : ∃ q, k = q + 1 := ⟨k - 1, by omega⟩
  obtain ⟨k', hk'⟩ : ∃ q, k = q + 1 := ⟨k - 1, by omega⟩
  have rl := run_le s a
  have bad : ∀ t : Int, ¬ (1 ≤ run s a ∧ run s a ≤ 3 ∧ ¬ (1 < run s a ∧ bt s (a : Int) = 48) ∧ ¬ (mi = true ∧ bt s (a : Int) = 48)) → ∃ p, spec_l7Parts.j6 k s x7 x8 (a : Int) 0 mi t true = some p ∧ p.2.2.2 = lqP2 s mi a := fun t h => by
    rw [hk', spec_l7Parts.j6, if_pos rfl]
    refine ⟨_, rfl, (decide_eq_false (fun g => h ⟨g.1, g.2.1, g.2.2.1, g.2.2.2.1⟩)).symm⟩
  rw [spec_l7Parts.j5, s7_runf s hs a k ha (by omega), Option.bind_some]
  by_cases c0 : ((run s a : Nat) : Int) = 0
  · rw [if_pos c0]; exact bad _ (by omega)
  rw [if_neg c0]
  by_cases c3 : ((run s a : Nat) : Int) > 3
  · rw [if_pos c3]; exact bad _ (by omega)
  rw [if_neg c3]
  have p1 : (0 : Int) ≤ (a : Int) := by omega
  have p2 : (a : Int) < (s.size : Int) := by omega
  by_cases c1 : ((run s a : Nat) : Int) > 1
  · rw [if_pos c1, if_pos p1, if_pos p2]
    by_cases cb : bt s (a : Int) = 48
    · rw [if_pos cb]; exact bad _ (fun h => h.2.2.1 ⟨by omega, cb⟩)
    · rw [if_neg cb]
      have good := s7_j6 s x7 x8 mi a k hs (by omega) (by omega) (fun h => cb h.2) (fun h => cb h.2) ha (by omega)
      cases mi with
      | true => rw [if_pos rfl, beq_eq_false_iff_ne.mpr cb]; exact good
      | false => rw [if_neg (by decide)]; exact good
  · rw [if_neg c1]
    cases mi with
    | true =>
      rw [if_pos rfl, if_pos p1, if_pos p2]
      by_cases cb : bt s (a : Int) = 48
      · rw [beq_iff_eq.mpr cb]; exact bad _ (fun h => h.2.2.2 ⟨rfl, cb⟩)
      · rw [beq_eq_false_iff_ne.mpr cb]
        exact s7_j6 s x7 x8 true a k hs (by omega) (by omega) (fun h => cb h.2) (fun h => cb h.2) ha (by omega)
    | false =>
      rw [if_neg (by decide)]
      exact s7_j6 s x7 x8 false a k hs (by omega) (by omega) (by omega) (fun h => by cases h.1) ha (by omega)
theorem s7_j3 (s x7 : ByteArray) (x8 : Int) (a k : Nat) (hs : s.size ≤ 1048576) (ha : a < s.size) (hk : s.size + 22 ≤ k) : ∃ p, spec_l7Parts.j3 k s x7 x8 (a : Int) 0 true = some p ∧ p.2.2.2 = lqP s (a + 1) := by
  obtain ⟨k, rfl⟩ : ∃ q, k = q + 2 := ⟨k - 2, by omega⟩
  have e1 : wrap64 ((a : Int) + 1) = ((a + 1 : Nat) : Int) := by unfold wrap64; omega
  rw [show k + 2 = (k + 1) + 1 from rfl, spec_l7Parts.j3, if_pos rfl, e1]
  unfold lqP
  by_cases c : ((a + 1 : Nat) : Int) < (s.size : Int)
  · rw [if_pos c, if_pos (by omega), spec_l7Parts.j4]
    by_cases cb : bt s ((a + 1 : Nat) : Int) = 45
    · have e2 : wrap64 (((a + 1 : Nat) : Int) + 1) = ((a + 1 + 1 : Nat) : Int) := by unfold wrap64; omega
      rw [beq_iff_eq.mpr cb, if_pos rfl, e2, if_pos (show a + 1 < s.size ∧ bt s ((a + 1 : Nat) : Int) = 45 from ⟨by omega, cb⟩)]
      exact s7_j5 s x7 x8 true (a + 1 + 1) k hs (by omega) (by omega)
    · rw [beq_eq_false_iff_ne.mpr cb, if_neg (show ¬ (false = true) by decide), if_neg (show ¬ (a + 1 < s.size ∧ bt s ((a + 1 : Nat) : Int) = 45) from fun h => cb h.2)]
      exact s7_j5 s x7 x8 false (a + 1) k hs (by omega) (by omega)
  · rw [if_neg c, spec_l7Parts.j4, if_neg (show ¬ (false = true) by decide), if_neg (show ¬ (a + 1 < s.size ∧ bt s ((a + 1 : Nat) : Int) = 45) by omega)]
    exact s7_j5 s x7 x8 false (a + 1) k hs (by omega) (by omega)
theorem s7_j2 (s x7 : ByteArray) (x8 : Int) (a k : Nat) (hs : s.size ≤ 1048576) (ha : a ≤ s.size) (hk : s.size + 24 ≤ k) : ∃ p, spec_l7Parts.j2 k s x7 x8 (a : Int) = some p ∧ p.2.2.2 = lqT s a := by
  obtain ⟨k, rfl⟩ : ∃ q, k = q + 2 := ⟨k - 2, by omega⟩
  rw [show k + 2 = (k + 1) + 1 from rfl, spec_l7Parts.j2]
  have no : (∃ p, spec_l7Parts.j3 (k + 1) s x7 x8 (a : Int) 0 false = some p ∧ p.2.2.2 = decide (a = s.size)) := by
    rw [spec_l7Parts.j3, if_neg (show ¬ (false = true) by decide)]
    refine ⟨_, rfl, ?_⟩
    by_cases g : a = s.size
    · rw [decide_eq_true g]; exact beq_iff_eq.mpr (by omega)
    · rw [decide_eq_false g]; exact beq_eq_false_iff_ne.mpr (by omega)
  unfold lqT
  by_cases c : (a : Int) < (s.size : Int)
  · rw [if_pos c, if_pos (by omega)]
    by_cases cb : bt s (a : Int) = 101
    · rw [beq_iff_eq.mpr cb, if_pos (show a < s.size ∧ bt s (a : Int) = 101 from ⟨by omega, cb⟩)]
      exact s7_j3 s x7 x8 a (k + 1) hs (by omega) (by omega)
    · rw [beq_eq_false_iff_ne.mpr cb, if_neg (show ¬ (a < s.size ∧ bt s (a : Int) = 101) from fun h => cb h.2)]
      exact no
  · rw [if_neg c, if_neg (show ¬ (a < s.size ∧ bt s (a : Int) = 101) by omega)]
    exact no
theorem s7_all (s : ByteArray) (hs : s.size ≤ 60) (k : Nat) (hk : s.size + 30 ≤ k) : ∃ p, spec_l7Parts.f k s = some p ∧ p.2.2.2 = lqQ s := by
  obtain ⟨k1, hk1⟩ : ∃ q, k = q + 1 := ⟨k - 1, by omega⟩
  obtain ⟨k2, hk2⟩ : ∃ q, k1 = q + 1 := ⟨k1 - 1, by omega⟩
  have rl := run_le s 0
  unfold spec_l7Parts.f
  rw [if_neg (by omega), show spec_l7Digits.f k s 0 = some ((run s 0 : Nat) : Int) from s7_runf s (by omega) 0 k (by omega) (by omega), Option.bind_some]
  have bad : (run s 0 = 0 ∨ (1 < run s 0 ∧ bt s 0 = 48)) → ∃ p, spec_l7Parts.j0 k s ((run s 0 : Nat) : Int) true = some p ∧ p.2.2.2 = lqQ s := fun h => by
    rw [hk1, spec_l7Parts.j0, if_pos rfl]
    unfold lqQ
    rw [if_pos h]
    exact ⟨_, rfl, rfl⟩
  have good : ¬ (run s 0 = 0 ∨ (1 < run s 0 ∧ bt s 0 = 48)) → ∃ p, spec_l7Parts.j0 k s ((run s 0 : Nat) : Int) false = some p ∧ p.2.2.2 = lqQ s := fun h => by
    rw [hk1, spec_l7Parts.j0, if_neg (show ¬ (false = true) by decide), if_pos (by omega), if_pos (by omega)]
    unfold lqQ
    rw [if_neg h]
    have no : ∀ x7 : ByteArray, ∃ p, spec_l7Parts.j1 k1 s x7 0 ((run s 0 : Nat) : Int) false = some p ∧ p.2.2.2 = lqT s (run s 0) := fun x7 => by
      rw [hk2, spec_l7Parts.j1, if_neg (show ¬ (false = true) by decide)]
      exact s7_j2 s x7 0 (run s 0) k2 (by omega) (by omega) (by omega)
    by_cases c : ((run s 0 : Nat) : Int) < (s.size : Int)
    · rw [if_pos c]
      by_cases cb : bt s ((run s 0 : Nat) : Int) = 46
      · have lt : run s 0 < s.size := by omega
        have rl1 := run_le s (run s 0 + 1)
        have q1 : run s 0 + 1 ≤ s.size := lt
        have q2 : s.size < k2 := by omega
        have q3 : s.size + 24 ≤ k2 := by omega
        have f46 : run s 0 < s.size ∧ bt s (run s 0 : Int) = 46 := ⟨lt, cb⟩
        have p1 : (0 : Int) ≤ ((run s 0 + 1 : Nat) : Int) := Int.natCast_nonneg _
        have p2 : ((run s 0 + 1 : Nat) : Int) ≤ ((run s 0 + 1 + run s (run s 0 + 1) : Nat) : Int) := by omega
        have p4 : run s 0 + 1 + run s (run s 0 + 1) ≤ s.size := by omega
        have p3 : ((run s 0 + 1 + run s (run s 0 + 1) : Nat) : Int) ≤ (s.size : Int) := by omega
        have z1 := (lq_extract s 0 (run s 0) (by omega) (by omega)).1
        have z2 := (lq_extract s (run s 0 + 1) (run s 0 + 1 + run s (run s 0 + 1)) (by omega) (by omega)).1
        have z3 : (s.extract 0 (run s 0)).size + (s.extract (run s 0 + 1) (run s 0 + 1 + run s (run s 0 + 1))).size ≤ 9223372036854775807 := by rw [z1, z2]; omega
        have e1 : wrap64 (((run s 0 : Nat) : Int) + 1) = ((run s 0 + 1 : Nat) : Int) := by clear z3 z1 z2 p1 p2 p3 p4; unfold wrap64; omega
        have e2 : wrap64 (((run s 0 + 1 : Nat) : Int) + ((run s (run s 0 + 1) : Nat) : Int)) = ((run s 0 + 1 + run s (run s 0 + 1) : Nat) : Int) := by clear e1 z3 z1 z2 p1 p2 p3; unfold wrap64; omega
        rw [beq_iff_eq.mpr cb, if_pos f46, hk2, spec_l7Parts.j1, if_pos rfl, e1, s7_runf s (by clear e1 e2; omega) (run s 0 + 1) k2 q1 q2, Option.bind_some]
        by_cases c0 : run s (run s 0 + 1) = 0
        · have c0i : ((run s (run s 0 + 1) : Nat) : Int) = 0 := by rw [c0]; rfl
          rw [if_pos c0, if_pos c0i]; exact ⟨_, rfl, rfl⟩
        · have c0i : ¬ ((run s (run s 0 + 1) : Nat) : Int) = 0 := fun h => c0 (Int.natCast_eq_zero.mp h)
          have hs' : s.size ≤ 1048576 := Nat.le_trans hs (by decide)
          rw [if_neg c0, if_neg c0i, e2, if_pos p1, if_pos p2, if_pos p3]
          simp only [Int.toNat_natCast]
          rw [if_pos z3]
          exact s7_j2 s _ _ (run s 0 + 1 + run s (run s 0 + 1)) k2 hs' p4 q3
      · rw [beq_eq_false_iff_ne.mpr cb, if_neg (show ¬ (run s 0 < s.size ∧ bt s (run s 0 : Int) = 46) from fun h => cb h.2)]
        exact no _
    · rw [if_neg c, if_neg (show ¬ (run s 0 < s.size ∧ bt s (run s 0 : Int) = 46) by omega)]
      exact no _
  by_cases c0 : ((run s 0 : Nat) : Int) = 0
  · rw [if_pos c0]; exact bad (.inl (by omega))
  rw [if_neg c0]
  by_cases c1 : ((run s 0 : Nat) : Int) > 1
  · rw [if_pos c1, if_pos (by omega)]
    by_cases cb : bt s 0 = 48
    · rw [beq_iff_eq.mpr cb]; exact bad (.inr ⟨by omega, cb⟩)
    · rw [beq_eq_false_iff_ne.mpr cb]; exact good (fun h => h.elim (by omega) (fun g => cb g.2))
  · rw [if_neg c1]; exact good (by omega)
theorem FnExactDecOk : laws_FnExactDecOk.Pure := by
  intro s hs
  refine ⟨s.size + 40, ?_⟩
  unfold laws_FnExactDecOk.f
  by_cases c : (s.size : Int) > 1048576
  · rw [if_pos c]
  · rw [if_neg c]
    obtain ⟨a, b, p, hi⟩ := lq_lit s (by omega) (s.size + 40) (by omega)
    unfold spec_DecOk.f impl_DecOk.f
    rw [hi]
    by_cases c6 : s.size ≤ 60
    · obtain ⟨q, h1, h2⟩ := s7_all s c6 (s.size + 40) (by omega)
      rw [h1]
      simp only [Option.bind_some]
      rw [h2, decide_eq_true (show (s.size : Int) ≤ 60 by omega)]
      cases lqQ s <;> rfl
    · unfold spec_l7Parts.f
      rw [if_pos (by omega)]
      simp only [Option.bind_some]
      rw [decide_eq_false (show ¬ (s.size : Int) ≤ 60 by omega)]
      cases lqQ s <;> rfl
end Go.Proofs.YtmdeolonjmjmgaaDoor.Pure
