/- DecFrac of the program and of the reference agree for every text.
   Conditions: none beyond those of the given row (each number is of its kind). -/
import Derived.Test.YtmdeolonjmjmgaaDoorQFnExactDecFracx14
import Derived.Test.YtmdeolonjmjmgaaDoorMB
import Derived.Test.YtmdeolonjmjmgaaDoorMN
import Derived.Test.YtmdeolonjmjmgaaDoorSLit
namespace Go.Proofs.YtmdeolonjmjmgaaDoor.Pure
open Go.RowKit Go.Proofs.YtmdeolonjmjmgaaDoor.QFnExactDecFrac Go.Proofs.YtmdeolonjmjmgaaDoorW.PrintWords Go.Proofs.YtmdeolonjmjmgaaDoorW.PrintLast Go.Proofs.YtmdeolonjmjmgaaDoorW.PrintMore Go.Proofs.YtmdeolonjmjmgaaDoor.M Go.Proofs.YtmdeolonjmjmgaaDoor.MN Go.Proofs.YtmdeolonjmjmgaaDoor.SLit
set_option linter.unusedVariables false
set_option linter.unusedSimpArgs false
def lqd (s : ByteArray) (j : Nat) : Bool := decide (48 ≤ bt s (j : Int)) && decide (bt s (j : Int) ≤ 57)
def rn (s : ByteArray) : Nat → Nat → Nat
  | 0, _ => 0
  | m + 1, a => if lqd s a = true then rn s m (a + 1) + 1 else 0
def run (s : ByteArray) (a : Nat) : Nat := rn s (s.size - a) a
theorem lqd_iff (s : ByteArray) (j : Nat) : lqd s j = true ↔ 48 ≤ bt s (j : Int) ∧ bt s (j : Int) ≤ 57 := by
  unfold lqd; rw [Bool.and_eq_true, decide_eq_true_eq, decide_eq_true_eq]
theorem rn_le (s : ByteArray) : ∀ m a, rn s m a ≤ m := by
  intro m
  induction m with
  | zero => intro a; exact Nat.le_refl _
  | succ m ih =>
    intro a
    rw [rn]
    split
    · exact Nat.succ_le_succ (ih _)
    · exact Nat.zero_le _
theorem rn_dig (s : ByteArray) : ∀ m a j, j < rn s m a → lqd s (a + j) = true := by
  intro m
  induction m with
  | zero => intro a j h; exact absurd h (Nat.not_lt_zero _)
  | succ m ih =>
    intro a j h
    rw [rn] at h
    split at h
    · rename_i hd
      cases j with
      | zero => exact hd
      | succ j => rw [show a + (j + 1) = a + 1 + j by omega]; exact ih (a + 1) j (by omega)
    · exact absurd h (Nat.not_lt_zero _)
theorem rn_stop (s : ByteArray) : ∀ m a, rn s m a < m → lqd s (a + rn s m a) = false := by
  intro m
  induction m with
  | zero => intro a h; exact absurd h (Nat.not_lt_zero _)
  | succ m ih =>
    intro a h
    by_cases hd : lqd s a = true
    · have e : rn s (m + 1) a = rn s m (a + 1) + 1 := by rw [rn, if_pos hd]
      rw [e] at h ⊢
      rw [show a + (rn s m (a + 1) + 1) = a + 1 + rn s m (a + 1) by omega]
      exact ih (a + 1) (by omega)
    · have e : rn s (m + 1) a = 0 := by rw [rn, if_neg hd]
      rw [e, Nat.add_zero]
      exact Bool.eq_false_iff.mpr hd
theorem rn_uniq (s : ByteArray) (m a r : Nat) (h0 : r ≤ m) (h1 : ∀ j, j < r → lqd s (a + j) = true) (h2 : r < m → lqd s (a + r) = false) : rn s m a = r := by
  rcases Nat.lt_trichotomy (rn s m a) r with h | h | h
  · have h3 := rn_stop s m a (by omega)
    rw [h1 _ h] at h3; cases h3
  · exact h
  · have h4 := rn_le s m a
    have h3 := rn_dig s m a r h
    rw [h2 (by omega)] at h3; cases h3
theorem rn_cut (s : ByteArray) (m m' a : Nat) (h : m ≤ m') : rn s m a = if rn s m' a ≤ m then rn s m' a else m := by
  split
  · rename_i h1
    refine rn_uniq s m a _ h1 (fun j hj => rn_dig s m' a j hj) (fun h2 => rn_stop s m' a (by omega))
  · rename_i h1
    exact rn_uniq s m a m (Nat.le_refl _) (fun j hj => rn_dig s m' a j (by omega)) (fun h2 => absurd h2 (Nat.lt_irrefl _))
theorem rn_eq (s x : ByteArray) (a : Nat) : ∀ m i, (∀ j, j < m → bt x ((i + j : Nat) : Int) = bt s ((a + i + j : Nat) : Int)) → rn x m i = rn s m (a + i) := by
  intro m
  induction m with
  | zero => intro i h; rfl
  | succ m ih =>
    intro i h
    have h0 := h 0 (by omega)
    rw [Nat.add_zero, Nat.add_zero] at h0
    have e : lqd x i = lqd s (a + i) := by unfold lqd; rw [h0]
    rw [rn, rn, e, ih (i + 1) (fun j hj => by have := h (j + 1) (by omega); rw [show i + 1 + j = i + (j + 1) by omega, show a + (i + 1) + j = a + i + (j + 1) by omega]; exact this), show a + (i + 1) = a + i + 1 by omega]
theorem lq_id (x : ByteArray) (hx : x.size ≤ 1048576) : ∀ (m i k : Nat), i + m = x.size → m < k → impl_isDigits.l0 k x (x.size : Int) (i : Int) = some (decide (rn x m i = m ∧ x.size ≠ 0)) := by
  intro m
  induction m with
  | zero =>
    intro i k hi hk
    obtain ⟨k, rfl⟩ : ∃ q, k = q + 1 := ⟨k - 1, by omega⟩
    rw [impl_isDigits.l0, if_neg (by omega)]
    have h2 : x.toList.length = x.size := by rw [Lib.toList_data]; exact Array.length_toList
    cases hx : x.toList with
    | nil => rw [hx] at h2; simp only [List.length_nil] at h2; simp [← h2]
    | cons b l => rw [hx] at h2; simp only [List.length_cons] at h2; simp [rn, ← h2]
  | succ m ih =>
    intro i k hi hk
    obtain ⟨k, rfl⟩ : ∃ q, k = q + 1 := ⟨k - 1, by omega⟩
    have e2 : wrap64 ((i : Int) + 1) = ((i + 1 : Nat) : Int) := by unfold wrap64; omega
    rw [impl_isDigits.l0, if_pos (by omega), if_pos (by omega), if_pos (by omega)]
    by_cases hd : lqd x i = true
    · have h := (lqd_iff x i).mp hd
      rw [if_neg (by omega), if_neg (by omega), e2, ih (i + 1) k (by omega) (by omega), rn, if_pos hd]
      congr 1
      rw [decide_eq_decide]
      omega
    · rw [rn, if_neg hd]
      have h := mt (lqd_iff x i).mpr hd
      rw [show decide (0 = m + 1 ∧ x.size ≠ 0) = false from decide_eq_false (by omega)]
      by_cases c1 : bt x (i : Int) < 48
      · rw [if_pos c1]
      · rw [if_neg c1, if_pos (by omega)]
theorem lq_idf (x : ByteArray) (hx : x.size ≤ 1048576) (k : Nat) (hk : x.size < k) : impl_isDigits.f k x = some (decide (rn x x.size 0 = x.size ∧ x.size ≠ 0)) :=
  lq_id x hx x.size 0 k (by omega) hk
theorem lq_one (x : ByteArray) : x.toList = ([48] : List UInt8) ↔ x.size = 1 ∧ bt x 0 = 48 := by
  rw [Lib.toList_data]
  have h2 : x.data.toList.length = x.size := Array.length_toList
  have hb : ∀ h : 0 < x.size, bt x 0 = (((x.data.toList[0]'(by omega)) : UInt8).toNat : Int) := fun h => by
    unfold bt; rw [dif_pos (show (0 : Int).toNat < x.size from h)]; rfl
  constructor
  · intro h
    have h3 : x.size = 1 := by rw [← h2, h]; rfl
    refine ⟨h3, ?_⟩
    rw [hb (by omega)]
    have : x.data.toList[0]'(by omega) = 48 := by simp [h]
    rw [this]; rfl
  · intro ⟨h3, h4⟩
    rw [hb (by omega)] at h4
    match hl : x.data.toList, h2 with
    | [b], _ =>
      have e : x.data.toList[0]'(by omega) = b := by simp [hl]
      rw [e] at h4
      have : b = 48 := UInt8.toNat.inj (by rw [show (48 : UInt8).toNat = 48 from rfl]; omega)
      rw [this]
    | [], h5 => rw [h3] at h5; cases h5
    | _ :: _ :: _, h5 => rw [h3] at h5; simp at h5
theorem lq_wd (x : ByteArray) (hx : x.size ≤ 1048576) (k : Nat) (hk : x.size < k) : impl_wholeDigits.f k x = some (decide (rn x x.size 0 = x.size ∧ x.size ≠ 0 ∧ (x.size = 1 ∨ bt x 0 ≠ 48))) := by
  unfold impl_wholeDigits.f
  rw [lq_idf x hx k hk, Option.bind_some]
  by_cases h : rn x x.size 0 = x.size ∧ x.size ≠ 0
  · rw [decide_eq_true h, if_pos rfl]
    by_cases h1 : x.toList = ([48] : List UInt8)
    · rw [if_pos h1, decide_eq_true ⟨h.1, h.2, .inl ((lq_one x).mp h1).1⟩]
    · rw [if_neg h1, if_pos (by omega)]
      have h2 := mt (lq_one x).mpr h1
      congr 1
      by_cases h3 : bt x 0 = 48
      · rw [h3, decide_eq_false (by omega)]; rfl
      · rw [decide_eq_true ⟨h.1, h.2, .inr h3⟩]; exact bne_iff_ne.mpr h3
  · rw [decide_eq_false h, if_neg (by decide), decide_eq_false (by omega)]
theorem lq_extract (s : ByteArray) (a b : Nat) (h1 : a ≤ b) (h2 : b ≤ s.size) : (s.extract a b).size = b - a ∧ ∀ j : Nat, j < b - a → bt (s.extract a b) (j : Int) = bt s ((a + j : Nat) : Int) := by
  have hz : (s.extract a b).size = b - a := by rw [ByteArray.size_extract]; omega
  refine ⟨hz, fun j hj => ?_⟩
  unfold bt
  rw [dif_pos (show ((j : Int)).toNat < (s.extract a b).size by rw [hz]; omega), dif_pos (show (((a + j : Nat) : Int)).toNat < s.size by omega)]
  simp only [Int.toNat_natCast]
  rw [ByteArray.getElem_extract]
theorem lq_at (s : ByteArray) (j : Nat) (h : j < s.size) : ∃ b : UInt8, s.data.toList[j]? = some b ∧ bt s (j : Int) = (b.toNat : Int) := by
  have h2 : s.data.toList.length = s.size := Array.length_toList
  refine ⟨s[j], ?_, ?_⟩
  · rw [List.getElem?_eq_getElem (by omega)]; rfl
  · unfold bt; rw [dif_pos (show ((j : Int)).toNat < s.size by omega)]; rfl
/-- What a cut at the byte c gives. -/
structure Cut (c : UInt8) (s : ByteArray) (p : Nat) : Prop where
  le : p ≤ s.size
  ne : ∀ j, j < p → bt s (j : Int) ≠ (c.toNat : Int)
  hit : p < s.size → bt s (p : Int) = (c.toNat : Int)
  flag : (SLit.cutb c s).2.2 = decide (p < s.size)
  s1 : (SLit.cutb c s).1.size = p
  b1 : ∀ j : Nat, j < p → bt (SLit.cutb c s).1 (j : Int) = bt s (j : Int)
  s2 : (SLit.cutb c s).2.1.size = s.size - p - 1
  b2 : ∀ j : Nat, j < s.size - p - 1 → bt (SLit.cutb c s).2.1 (j : Int) = bt s ((p + 1 + j : Nat) : Int)
theorem lq_cut (c : UInt8) (s : ByteArray) : ∃ p, Cut c s p := by
  rcases SLit.index_cases c s with hix | ⟨i, hix, hroom⟩
  · have e : SLit.cutb c s = (s, ⟨#[]⟩, false) := by unfold SLit.cutb; rw [if_pos hix]
    have hn := Lib.indexByte_none hix
    refine ⟨s.size, ⟨Nat.le_refl _, fun j hj he => ?_, fun h => absurd h (Nat.lt_irrefl _), ?_, ?_, ?_, ?_, ?_⟩⟩
    · obtain ⟨b, hb, hb2⟩ := lq_at s j hj
      refine hn j (hb.trans ?_)
      rw [hb2] at he
      exact congrArg some (UInt8.toNat.inj (by omega))
    · rw [e]; exact (decide_eq_false (Nat.lt_irrefl _)).symm
    · rw [e]
    · intro j hj; rw [e]
    · rw [e, show s.size - s.size - 1 = 0 by omega]; rfl
    · intro j hj; omega
  · have e : SLit.cutb c s = (s.extract 0 i, s.extract (i + 1) s.size, true) := by unfold SLit.cutb; rw [if_neg (by omega), hix]; rfl
    obtain ⟨hs1, hs2⟩ := Lib.indexByte_some hix
    obtain ⟨x1, x2⟩ := lq_extract s 0 i (Nat.zero_le _) (by omega)
    obtain ⟨y1, y2⟩ := lq_extract s (i + 1) s.size hroom (Nat.le_refl _)
    refine ⟨i, ⟨by omega, fun j hj he => ?_, fun _ => ?_, ?_, ?_, ?_, ?_, ?_⟩⟩
    · obtain ⟨b, hb, hb2⟩ := lq_at s j (by omega)
      refine hs2 j hj (hb.trans ?_)
      rw [hb2] at he
      exact congrArg some (UInt8.toNat.inj (by omega))
    · obtain ⟨b, hb, hb2⟩ := lq_at s i (by omega)
      rw [hb2]
      have := Option.some.inj (hb.symm.trans hs1)
      rw [this]
    · rw [e]; exact (decide_eq_true (by omega)).symm
    · rw [e]; exact x1.trans (Nat.sub_zero _)
    · intro j hj; rw [e]; exact (x2 j (by omega)).trans (by rw [Nat.zero_add])
    · rw [e]; exact y1.trans (by omega)
    · intro j hj; rw [e]; exact y2 j (by omega)
def lqv (s : ByteArray) (a : Nat) : Nat → Nat
  | 0 => 0
  | k + 1 => lqv s a k * 10 + (bt s ((a + k : Nat) : Int) - 48).toNat
def lqP2 (s : ByteArray) (mi : Bool) (a : Nat) : Bool := decide (1 ≤ run s a ∧ run s a ≤ 3 ∧ ¬ (1 < run s a ∧ bt s (a : Int) = 48) ∧ ¬ (mi = true ∧ bt s (a : Int) = 48) ∧ lqv s a (run s a) ≤ 400 ∧ a + run s a = s.size)
def lqP (s : ByteArray) (a : Nat) : Bool := if a < s.size ∧ bt s (a : Int) = 45 then lqP2 s true (a + 1) else lqP2 s false a
def lqT (s : ByteArray) (a : Nat) : Bool := if a < s.size ∧ bt s (a : Int) = 101 then lqP s (a + 1) else decide (a = s.size)
def lqQ (s : ByteArray) : Bool := if run s 0 = 0 ∨ (1 < run s 0 ∧ bt s 0 = 48) then false else if run s 0 < s.size ∧ bt s (run s 0 : Int) = 46 then (if run s (run s 0 + 1) = 0 then false else lqT s (run s 0 + 1 + run s (run s 0 + 1))) else lqT s (run s 0)
theorem lq_minus (x : ByteArray) : SLit.minus x = decide (0 < x.size ∧ bt x 0 = 45) := by
  unfold SLit.minus Lib.hasPrefix
  by_cases h : 0 < x.size
  · obtain ⟨b, hb, hb2⟩ := lq_at x 0 h
    rw [show ((0 : Nat) : Int) = 0 from rfl] at hb2
    cases hl : x.data.toList with
    | nil => rw [hl] at hb; cases hb
    | cons d l =>
      rw [hl] at hb
      have hbd : d = b := Option.some.inj hb
      subst hbd
      rw [hb2]
      by_cases hd : d = 45
      · subst hd; rw [decide_eq_true ⟨h, rfl⟩]; rfl
      · have : ¬ (d.toNat : Int) = 45 := fun e => hd (UInt8.toNat.inj (by rw [show (45 : UInt8).toNat = 45 from rfl]; omega))
        rw [decide_eq_false (fun e => this e.2)]
        simp [List.isPrefixOf, Ne.symm hd]
  · rw [decide_eq_false (fun e => h e.1)]
    have h2 : x.data.toList.length = x.size := Array.length_toList
    cases hl : x.data.toList with
    | nil => rfl
    | cons d l => rw [hl] at h2; simp only [List.length_cons] at h2; omega
theorem lq_after (x : ByteArray) : (SLit.after x).size = x.size - (if SLit.minus x = true then 1 else 0) ∧ ∀ j : Nat, j < (SLit.after x).size → bt (SLit.after x) (j : Int) = bt x ((j + (if SLit.minus x = true then 1 else 0) : Nat) : Int) := by
  have h2 : x.data.toList.length = x.size := Array.length_toList
  have hB : ∀ (l : List UInt8) (j : Nat) (h : j < l.length), bt (⟨l.toArray⟩ : ByteArray) (j : Int) = ((l[j]).toNat : Int) := fun l j h => by
    unfold bt
    rw [dif_pos (show ((j : Int)).toNat < (⟨l.toArray⟩ : ByteArray).size by show _ < l.toArray.size; simpa using h)]
    rfl
  have hX : (⟨x.data.toList.toArray⟩ : ByteArray) = x := by cases x; simp
  unfold SLit.after Lib.trimPrefix
  by_cases hm : SLit.minus x = true
  · have hm' : Lib.hasPrefix x.data.toList [45] = true := hm
    rw [if_pos hm', if_pos hm]
    cases hl : x.data.toList with
    | nil => rw [hl] at hm'; exact absurd hm' (by decide)
    | cons d l =>
      rw [hl] at h2
      simp only [List.length_cons] at h2
      refine ⟨by show (List.drop 1 (d :: l)).toArray.size = _; simp; omega, fun j hj => ?_⟩
      have hj' : j < l.length := by have : j < (List.drop 1 (d :: l)).toArray.size := hj; simpa using this
      rw [← hX, hl]
      rw [show ([45] : List UInt8).length = 1 from rfl, hB _ _ (by simpa using hj'), hB _ _ (by simp; omega)]
      simp
  · have hm' : ¬ Lib.hasPrefix x.data.toList [45] = true := hm
    rw [if_neg hm', if_neg hm, hX]
    exact ⟨rfl, fun j hj => by rw [Nat.add_zero]⟩
theorem lq_pu (acc : Nat) (b : UInt8) (l : List UInt8) (h : 48 ≤ b.toNat ∧ b.toNat ≤ 57) (ha : acc ≤ 1000) : Lib.parseUint10 acc (b :: l) = Lib.parseUint10 (acc * 10 + (b.toNat - 48)) l := by
  rw [Lib.parseUint10, if_pos h, if_neg (by omega), if_neg (by omega)]
theorem lq_at1 (c : UInt8) (r : List UInt8) (u : Nat) (hc : c.toNat ≠ 43 ∧ c.toNat ≠ 45) (h : Lib.parseUint10 0 (c :: r) = .ok u) (hu : u ≤ 99999) : Lib.atoiAll (c :: r) = .ok (u : Int) := by
  have h1 : ¬ (c.toNat = 43 ∨ c.toNat = 45) := by omega
  have h2 : Lib.parseMag (c :: r) = .ok u := by unfold Lib.parseMag; rw [if_neg (by simp), h]
  simp only [Lib.atoiAll, if_neg h1, h2]
  rw [if_neg (by omega), if_neg (by omega), if_neg hc.2]
theorem lq_atoi (x : ByteArray) (h1 : 1 ≤ x.size) (h3 : x.size ≤ 3) (hd : ∀ j, j < x.size → lqd x j = true) : Lib.atoiAll x.data.toList = .ok (lqv x 0 x.size : Int) := by
  have h2 : x.data.toList.length = x.size := Array.length_toList
  have hb : ∀ j, j < x.size → ∃ b : UInt8, x.data.toList[j]? = some b ∧ bt x (j : Int) = (b.toNat : Int) ∧ 48 ≤ b.toNat ∧ b.toNat ≤ 57 := fun j hj => by
    obtain ⟨b, p, q⟩ := lq_at x j hj
    have := (lqd_iff x j).mp (hd j hj)
    exact ⟨b, p, q, by omega, by omega⟩
  generalize x.size = n at h1 h2 h3 hb
  match hl : x.data.toList, n, h2 with
  | [b0], 1, _ =>
    obtain ⟨c0, p0, q0, r0, t0⟩ := hb 0 (by omega)
    rw [hl] at p0; obtain rfl : b0 = c0 := Option.some.inj p0
    refine lq_at1 b0 [] _ (by omega) ?_ (by simp only [lqv, Nat.add_zero, q0]; omega)
    rw [lq_pu _ _ _ ⟨r0, t0⟩ (by omega), Lib.parseUint10]
    simp only [lqv, Nat.add_zero, q0]
    congr 1; omega
  | [b0, b1], 2, _ =>
    obtain ⟨c0, p0, q0, r0, t0⟩ := hb 0 (by omega)
    obtain ⟨c1, p1, q1, r1, t1⟩ := hb 1 (by omega)
    rw [hl] at p0 p1; obtain rfl : b0 = c0 := Option.some.inj p0; obtain rfl : b1 = c1 := Option.some.inj p1
    refine lq_at1 b0 [b1] _ (by omega) ?_ (by simp only [lqv, Nat.add_zero, Nat.zero_add, q0, q1]; omega)
    rw [lq_pu _ _ _ ⟨r0, t0⟩ (by omega), lq_pu _ _ _ ⟨r1, t1⟩ (by omega), Lib.parseUint10]
    simp only [lqv, Nat.add_zero, Nat.zero_add, q0, q1]
    congr 1; omega
  | [b0, b1, b2], 3, _ =>
    obtain ⟨c0, p0, q0, r0, t0⟩ := hb 0 (by omega)
    obtain ⟨c1, p1, q1, r1, t1⟩ := hb 1 (by omega)
    obtain ⟨c2, p2, q2, r2, t2⟩ := hb 2 (by omega)
    rw [hl] at p0 p1 p2; obtain rfl : b0 = c0 := Option.some.inj p0; obtain rfl : b1 = c1 := Option.some.inj p1; obtain rfl : b2 = c2 := Option.some.inj p2
    refine lq_at1 b0 [b1, b2] _ (by omega) ?_ (by simp only [lqv, Nat.add_zero, Nat.zero_add, q0, q1, q2]; omega)
    rw [lq_pu _ _ _ ⟨r0, t0⟩ (by omega), lq_pu _ _ _ ⟨r1, t1⟩ (by omega), lq_pu _ _ _ ⟨r2, t2⟩ (by omega), Lib.parseUint10]
    simp only [lqv, Nat.add_zero, Nat.zero_add, q0, q1, q2]
    congr 1; omega
  | [], _, h => simp only [List.length_nil] at h; omega
  | b0 :: b1 :: b2 :: b3 :: l, _, h => simp only [List.length_cons] at h; omega
theorem run_le (s : ByteArray) (a : Nat) : run s a ≤ s.size - a := rn_le s _ a
theorem run_dig (s : ByteArray) (a j : Nat) (h : j < run s a) : 48 ≤ bt s ((a + j : Nat) : Int) ∧ bt s ((a + j : Nat) : Int) ≤ 57 := (lqd_iff s (a + j)).mp (rn_dig s _ a j h)
theorem rn_run (s : ByteArray) (m a : Nat) (h : a + m ≤ s.size) : rn s m a = m ↔ m ≤ run s a := by
  have h1 := rn_cut s m (s.size - a) a (by omega)
  rw [show rn s (s.size - a) a = run s a from rfl] at h1
  rw [h1]
  split <;> omega
theorem sub_rn (s x : ByteArray) (a : Nat) (h : a + x.size ≤ s.size) (hx : ∀ j : Nat, j < x.size → bt x (j : Int) = bt s ((a + j : Nat) : Int)) : rn x x.size 0 = x.size ↔ x.size ≤ run s a := by
  have h1 := rn_eq s x a x.size 0 (fun j hj => by rw [Nat.zero_add, Nat.add_zero]; exact hx j hj)
  rw [h1, Nat.add_zero]
  exact rn_run s x.size a h
theorem sub_lqv (s x : ByteArray) (a : Nat) (hx : ∀ j : Nat, j < x.size → bt x (j : Int) = bt s ((a + j : Nat) : Int)) : ∀ k, k ≤ x.size → lqv x 0 k = lqv s a k := by
  intro k
  induction k with
  | zero => intro _; rfl
  | succ k ih =>
    intro h
    rw [lqv, lqv, ih (by omega), Nat.zero_add, hx k (by omega)]
theorem lqv_pos (s : ByteArray) (a : Nat) (h : 49 ≤ bt s (a : Int)) : ∀ k, 1 ≤ k → 0 < lqv s a k := by
  intro k
  induction k with
  | zero => intro h; omega
  | succ k ih =>
    intro _
    rw [lqv]
    rcases Nat.eq_zero_or_pos k with rfl | hk
    · rw [Nat.add_zero]; omega
    · have := ih hk; omega
/-- The power, told by the program and by places. -/
theorem s7_run (s : ByteArray) (hs : s.size ≤ 1048576) : ∀ (m a n0 k : Nat), a + n0 + m = s.size → m < k → spec_l7Digits.l0 k s (a : Int) (n0 : Int) = some (((n0 + rn s m (a + n0) : Nat)) : Int) := by
  intro m
  induction m with
  | zero =>
    intro a n0 k hi hk
    obtain ⟨k, rfl⟩ : ∃ q, k = q + 1 := ⟨k - 1, by omega⟩
    have e1 : wrap64 ((a : Int) + (n0 : Int)) = ((a + n0 : Nat) : Int) := by unfold wrap64; omega
    rw [spec_l7Digits.l0, e1, if_neg (by omega)]
    rfl
  | succ m ih =>
    intro a n0 k hi hk
    obtain ⟨k, rfl⟩ : ∃ q, k = q + 1 := ⟨k - 1, by omega⟩
    have e1 : wrap64 ((a : Int) + (n0 : Int)) = ((a + n0 : Nat) : Int) := by unfold wrap64; omega
    have e2 : wrap64 ((n0 : Int) + 1) = ((n0 + 1 : Nat) : Int) := by unfold wrap64; omega
    rw [spec_l7Digits.l0, e1, if_pos (by omega), if_pos (by omega)]
    by_cases hd : lqd s (a + n0) = true
    · have h := (lqd_iff s (a + n0)).mp hd
      rw [if_pos (by omega), if_pos (by omega), e2, ih a (n0 + 1) k (by omega) (by omega), rn, if_pos hd]
      congr 2
      rw [show a + (n0 + 1) = a + n0 + 1 by omega]; omega
    · have h := mt (lqd_iff s (a + n0)).mpr hd
      rw [rn, if_neg hd]
      by_cases c1 : bt s ((a + n0 : Nat) : Int) ≥ 48
      · rw [if_pos c1, if_neg (by omega)]; rfl
      · rw [if_neg c1]; rfl
theorem s7_runf (s : ByteArray) (hs : s.size ≤ 1048576) (a k : Nat) (ha : a ≤ s.size) (hk : s.size < k) : spec_l7Digits.f k s (a : Int) = some ((run s a : Nat) : Int) := by
  have h := s7_run s hs (s.size - a) a 0 k (by omega) (by omega)
  rw [Nat.zero_add, Nat.add_zero] at h
  exact h
theorem lqv_lt (s : ByteArray) (a : Nat) : ∀ i, (∀ j, j < i → 48 ≤ bt s ((a + j : Nat) : Int) ∧ bt s ((a + j : Nat) : Int) ≤ 57) → lqv s a i + 1 ≤ 10 ^ i := by
  intro i
  induction i with
  | zero => intro _; exact Nat.le_refl _
  | succ i ih =>
    intro h
    have h1 := ih (fun j hj => h j (by omega))
    have h2 := h i (by omega)
    rw [lqv, Nat.pow_succ]
    omega
theorem s7_l0 (s x7 : ByteArray) (x8 : Int) (mi : Bool) (a kk : Nat) (hs : s.size ≤ 1048576) (h3 : kk ≤ 3) (ha : a + kk ≤ s.size) (hd : ∀ j, j < kk → 48 ≤ bt s ((a + j : Nat) : Int) ∧ bt s ((a + j : Nat) : Int) ≤ 57) (R : Option (ByteArray × Int × Int × Bool)) (hR : R = (if (lqv s a kk : Int) > 400 then (some ((⟨#[]⟩ : ByteArray), 0, 0, false)) else (if mi = true then (some (x7, x8, wrap64 (-(lqv s a kk : Int)), (((a + kk : Nat) : Int) == (s.size : Int)))) else (some (x7, x8, (lqv s a kk : Int), (((a + kk : Nat) : Int) == (s.size : Int))))))) : ∀ (m i k : Nat), i + m = kk → m < k → spec_l7Parts.l0 k s x7 x8 (a : Int) (lqv s a i : Int) mi (kk : Int) ((a + i : Nat) : Int) = R := by
  intro m
  induction m with
  | zero =>
    intro i k hi hk
    obtain ⟨k, rfl⟩ : ∃ q, k = q + 1 := ⟨k - 1, by omega⟩
    have e1 : wrap64 ((a : Int) + (kk : Int)) = ((a + kk : Nat) : Int) := by unfold wrap64; omega
    obtain rfl : i = kk := by omega
    rw [spec_l7Parts.l0, e1, if_neg (show ¬ ((a + i : Nat) : Int) < ((a + i : Nat) : Int) from Int.lt_irrefl _), hR]
  | succ m ih =>
    intro i k hi hk
    obtain ⟨k, rfl⟩ : ∃ q, k = q + 1 := ⟨k - 1, by omega⟩
    have g1 : i + 1 + m = kk := by omega
    have g2 : m < k := by omega
    have e1 : wrap64 ((a : Int) + (kk : Int)) = ((a + kk : Nat) : Int) := by unfold wrap64; omega
    have h1 := lqv_lt s a i (fun j hj => hd j (by omega))
    have h2 : (10 : Nat) ^ i ≤ 10 ^ 3 := Nat.pow_le_pow_right (by decide) (by omega)
    have h4 := hd i (by omega)
    have h5 : (lqv s a i : Int) ≤ 1000 := by
      have h6 : (10 : Nat) ^ 3 = 1000 := rfl
      rw [h6] at h2
      generalize (10 : Nat) ^ i = z at h1 h2
      omega
    clear h1 h2
    have e2 : wrap64 (wrap64 ((lqv s a i : Int) * 10) + ((bt s ((a + i : Nat) : Int) - 48) % 256)) = (lqv s a (i + 1) : Int) := by
      have w1 : wrap64 ((lqv s a i : Int) * 10) = (lqv s a i : Int) * 10 := by unfold wrap64; omega
      have w2 : (bt s ((a + i : Nat) : Int) - 48) % 256 = bt s ((a + i : Nat) : Int) - 48 := by omega
      rw [w1, w2, lqv]
      generalize bt s ((a + i : Nat) : Int) = z at h4 ⊢
      generalize lqv s a i = y at h5 ⊢
      clear hd w1 w2 ih
      unfold wrap64; omega
    have e3 : wrap64 (((a + i : Nat) : Int) + 1) = ((a + (i + 1) : Nat) : Int) := by unfold wrap64; omega
    have p1 : ((a + i : Nat) : Int) < ((a + kk : Nat) : Int) := by clear e2 e3; omega
    have p2 : (0 : Int) ≤ ((a + i : Nat) : Int) := Int.natCast_nonneg _
    have p3 : ((a + i : Nat) : Int) < (s.size : Int) := by clear e2 e3; omega
    rw [spec_l7Parts.l0, e1, if_pos p1, if_pos p2, if_pos p3, e2, e3]
    exact ih (i + 1) k g1 g2
theorem w64i (i : Nat) (h : i ≤ 1048576) : wrap64 ((i : Int) + 1) = ((i + 1 : Nat) : Int) := by unfold wrap64; omega
theorem e_rd (l : List Int) (i : Nat) (h : i < l.length) : rd l (i : Int) = l[i] := by simp [rd, List.getD_eq_getElem?_getD, List.getElem?_eq_getElem h]
theorem e_eqIntS_l (l : List Int) (hl : l.length ≤ 1048576) (d : Nat) : ∀ (i k : Nat), i + d = l.length → d < k → laws_eqIntS.l0 k l l (i : Int) = some true := by
  induction d with
  | zero =>
    intro i k hi hk
    obtain ⟨k, rfl⟩ : ∃ m, k = m + 1 := ⟨k - 1, by omega⟩
    simp only [laws_eqIntS.l0]; rw [if_neg (by omega)]
  | succ d ih =>
    intro i k hi hk
    obtain ⟨k, rfl⟩ : ∃ m, k = m + 1 := ⟨k - 1, by omega⟩
    simp only [laws_eqIntS.l0]
    rw [if_pos (by omega), if_pos (by omega), if_pos (by omega), if_pos trivial, w64i i (by omega)]
    exact ih (i + 1) k (by omega) (by omega)
theorem e_eqIntS (k : Nat) (l : List Int) (hl : l.length ≤ 1048576) (hk : l.length < k) : laws_eqIntS.f k l l = some true := by
  unfold laws_eqIntS.f; rw [if_pos rfl]; exact e_eqIntS_l l hl l.length 0 k (by omega) hk
def marks : Int → Nat → List Int
  | _, 0 => []
  | a, n + 1 => a :: marks (a + 1) n
theorem marks_length : ∀ (n : Nat) (a : Int), (marks a n).length = n := by
  intro n; induction n with
  | zero => intro a; rfl
  | succ n ih => intro a; simp [marks, ih]
theorem e_mark_l : ∀ (suf pre : List Int) (a : Int) (k : Nat), suf.length < k → pre.length + suf.length ≤ 1048576 → 0 ≤ a ∧ a + suf.length ≤ 9000000 → laws_markIntS.l0 k (pre ++ suf) a (pre.length : Int) = some (a + suf.length, pre ++ marks a suf.length) := by
  intro suf; induction suf with
  | nil =>
    intro pre a k hk hl ha
    obtain ⟨k, rfl⟩ : ∃ m, k = m + 1 := ⟨k - 1, by simp at hk; omega⟩
    simp only [laws_markIntS.l0]
    rw [if_neg (by simp)]; simp [marks]
  | cons s suf ih =>
    intro pre a k hk hl ha
    simp only [List.length_cons] at hk hl ha
    obtain ⟨k, rfl⟩ : ∃ m, k = m + 1 := ⟨k - 1, by omega⟩
    simp only [laws_markIntS.l0]
    rw [if_pos (by simp; omega), if_pos (by omega)]
    have e1 : (pre ++ s :: suf).set ((pre.length : Int)).toNat a = (pre ++ [a]) ++ suf := by
      rw [Int.toNat_natCast, List.set_append_right _ _ (Nat.le_refl _), Nat.sub_self, List.set_cons_zero, List.append_assoc]; rfl
    have e2 : wrap64 (a + 1) = a + 1 := by unfold wrap64; omega
    have e3 : wrap64 ((pre.length : Int) + 1) = ((pre ++ [a]).length : Int) := by rw [List.length_append]; simp; unfold wrap64; omega
    rw [e1, e2, e3, ih (pre ++ [a]) (a + 1) k (by omega) (by rw [List.length_append]; simp; omega) (by omega)]
    simp [marks]; omega
theorem e_mark (k : Nat) (l : List Int) (a : Int) (hk : l.length < k) (hl : l.length ≤ 1048576) (ha : 0 ≤ a ∧ a ≤ 7000000) : laws_markIntS.f k l a = some (a + l.length, marks a l.length) := by
  have := e_mark_l l [] a k hk (by simpa using hl) (by omega)
  simpa [laws_markIntS.f] using this
theorem e_held_l : ∀ (n : Nat) (pre : List Int) (a : Int) (k : Nat), n < k → pre.length + n ≤ 1048576 → 0 ≤ a ∧ a + n ≤ 9000000 → laws_heldIntS.l0 k (pre ++ marks a n) a (pre.length : Int) = some (a + n) := by
  intro n; induction n with
  | zero =>
    intro pre a k hk hl ha
    obtain ⟨k, rfl⟩ : ∃ m, k = m + 1 := ⟨k - 1, by omega⟩
    simp only [laws_heldIntS.l0]
    rw [if_neg (by simp [marks])]; simp
  | succ n ih =>
    intro pre a k hk hl ha
    obtain ⟨k, rfl⟩ : ∃ m, k = m + 1 := ⟨k - 1, by omega⟩
    simp only [laws_heldIntS.l0]
    have e0 : rd (pre ++ marks a (n + 1)) (pre.length : Int) = a := by
      rw [e_rd _ _ (by rw [List.length_append, marks_length]; omega)]; simp [marks]
    have e2 : wrap64 (a + 1) = a + 1 := by unfold wrap64; omega
    have e3 : wrap64 ((pre.length : Int) + 1) = ((pre ++ [a]).length : Int) := by rw [List.length_append]; simp; unfold wrap64; omega
    have e1 : pre ++ marks a (n + 1) = (pre ++ [a]) ++ marks (a + 1) n := by simp [marks]
    rw [if_pos (by rw [List.length_append, marks_length]; omega), if_pos (by omega), if_pos e0, e2, e3, e1, ih (pre ++ [a]) (a + 1) k (by omega) (by rw [List.length_append]; simp; omega) (by omega), Option.some.injEq]
    omega
theorem e_held (k : Nat) (n : Nat) (a : Int) (hk : n < k) (hl : n ≤ 1048576) (ha : 0 ≤ a ∧ a ≤ 7000000) : laws_heldIntS.f k (marks a n) a = some (a + n) := by
  have := e_held_l n [] a k hk (by simpa using hl) (by omega)
  simpa [laws_heldIntS.f] using this
theorem u64_mask16 (n : Int) (h0 : 0 ≤ n) (h1 : n < 18446744073709551616) : Go.bits .and .u64 n 65535 = n % 65536 := by
  rw [u64_and _ _ h0 h1 (by decide) (by decide)]
  have := Nat.and_two_pow_sub_one_eq_mod n.toNat 16
  rw [show (65535 : Int).toNat = 2 ^ 16 - 1 by decide, this]; omega
theorem e_sNatOf_l : ∀ (d k : Nat) (x : Int) (acc : List Int), d < k → 0 ≤ x → x < 65536 ^ d → x < 18446744073709551616 → acc.length + d ≤ 1000 →
    ∃ v, spec_NatOf.l0 k x acc = some v ∧ v.length ≤ acc.length + d ∧ ∃ s, v = acc ++ s ∧ MN.Can s ∧ MN.val s = x := by
  intro d; induction d with
  | zero =>
    intro k x acc hk h0 h1 h2 hl
    obtain ⟨k, rfl⟩ : ∃ m, k = m + 1 := ⟨k - 1, by omega⟩
    have : x = 0 := by simp at h1; omega
    subst this
    refine ⟨acc, by simp only [spec_NatOf.l0]; rw [if_neg (by decide)], by omega, [], by simp, MN.Can.nil, rfl⟩
  | succ d ih =>
    intro k x acc hk h0 h1 h2 hl
    obtain ⟨k, rfl⟩ : ∃ m, k = m + 1 := ⟨k - 1, by omega⟩
    simp only [spec_NatOf.l0]
    by_cases c : x > 0
    · rw [if_pos c, if_pos (by omega)]
      have e1 : IntKind.u64.wrap (Int.tdiv x 65536) = x / 65536 := by rw [Int.tdiv_eq_ediv_of_nonneg h0]; simp [IntKind.wrap, IntKind.signed, IntKind.bits]; omega
      have e2 : wrap64 (Int.tmod x 65536) = x % 65536 := by rw [Int.tmod_eq_emod_of_nonneg h0]; unfold wrap64; omega
      rw [e1, e2]
      have h3 : x / 65536 < 65536 ^ d := by rw [Int.pow_succ] at h1; omega
      obtain ⟨v, hv, hl2, s, hs, hc, hval⟩ := ih k (x / 65536) (acc ++ [x % 65536]) (by omega) (by omega) h3 (by omega) (by rw [List.length_append]; simp; omega)
      refine ⟨v, hv, by rw [List.length_append] at hl2; simp at hl2; omega, x % 65536 :: s, by rw [hs]; simp, ?_, ?_⟩
      · refine ⟨MN.DOk.cons (by omega) (by omega) hc.1, ?_⟩
        by_cases z : s = []
        · subst z; have : x / 65536 = 0 := by rw [← hval]; rfl
          simp; omega
        · rw [MN.getLast?_cons_ne z]; exact hc.2
      · simp only [MN.val, hval]; omega
    · rw [if_neg c]
      exact ⟨acc, rfl, by omega, [], by simp, MN.Can.nil, by simp [MN.val]; omega⟩
theorem e_sNatOf (k : Nat) (x : Int) (hk : 4 < k) (h0 : 0 ≤ x) (h2 : x < 18446744073709551616) : ∃ v, spec_NatOf.f k x = some v ∧ v.length ≤ 4 ∧ MN.Can v ∧ MN.val v = x := by
  obtain ⟨v, h, hl, s, hs, hc, hv⟩ := e_sNatOf_l 4 k x [] hk h0 (by omega) h2 (by simp)
  have : v = s := by simpa using hs
  subst this
  exact ⟨v, h, by simpa using hl, hc, hv⟩
theorem e_iNatOf_l : ∀ (k : Nat) (x : Int) (acc : List Int), 0 ≤ x → x < 18446744073709551616 → impl_natOf.l0 k x acc = spec_NatOf.l0 k x acc := by
  intro k; induction k with
  | zero => intro x acc _ _; rfl
  | succ k ih =>
    intro x acc h0 h2
    simp only [spec_NatOf.l0, impl_natOf.l0]
    have e1 : IntKind.u64.wrap (Int.tdiv x 65536) = x / 65536 := by rw [Int.tdiv_eq_ediv_of_nonneg h0]; simp [IntKind.wrap, IntKind.signed, IntKind.bits]; omega
    have e2 : Int.tmod x 65536 = x % 65536 := Int.tmod_eq_emod_of_nonneg h0
    rw [e1, e2, u64_mask16 x h0 h2, ih (x / 65536) _ (by omega) (by omega)]
theorem e_clone (l : List Int) (h : l.length ≤ 17592186044416) : impl_clone_int.f l = some l := by
  unfold impl_clone_int.f slices_Clone_int_int.f; rw [if_pos h]
theorem e_rd0 (l : List Int) (i : Nat) : rd l (i : Int) = l.getD i 0 := by simp [rd]
theorem e_sTrim_copy (y : List Int) (hl : y.length ≤ 2000) (m : Nat) (hm : m ≤ y.length) : ∀ (d k j : Nat), j + d = m → d < k → spec_l5Trim.l1 k y (m : Int) (y.take j) (j : Int) = some (y.take m) := by
  intro d
  induction d with
  | zero =>
    intro k j hj hk
    obtain ⟨k, rfl⟩ : ∃ q, k = q + 1 := ⟨k - 1, by omega⟩
    have : j = m := by omega
    subst this
    simp only [spec_l5Trim.l1]
    rw [if_neg (by omega)]
  | succ d ih =>
    intro k j hj hk
    obtain ⟨k, rfl⟩ : ∃ q, k = q + 1 := ⟨k - 1, by omega⟩
    simp only [spec_l5Trim.l1]
    have e1 : wrap64 ((j : Int) + 1) = ((j + 1 : Nat) : Int) := by unfold wrap64; omega
    have e2 : y.take j ++ [rd y (j : Int)] = y.take (j + 1) := by
      rw [e_rd0, List.getD_eq_getElem?_getD, List.getElem?_eq_getElem (by omega), Option.getD_some, List.take_succ_eq_append_getElem (by omega)]
    rw [if_pos (by omega), if_pos (by omega), if_pos (by omega), if_pos (by rw [List.length_take]; omega), e1, e2]
    exact ih k (j + 1) (by omega) (by omega)
theorem e_sTrim_l (y : List Int) (hl : y.length ≤ 2000) : ∀ (m k : Nat), m ≤ y.length → 2 * m + 5 ≤ k → spec_l5Trim.l0 k y (m : Int) = some (MN.trimD (y.take m)) := by
  intro m
  induction m with
  | zero =>
    intro k hm hk
    obtain ⟨k, rfl⟩ : ∃ q, k = q + 2 := ⟨k - 2, by omega⟩
    simp only [spec_l5Trim.l0, spec_l5Trim.j1]
    rw [if_neg (by omega)]
    have := e_sTrim_copy y hl 0 (by omega) 0 k 0 rfl (by omega)
    simpa [MN.trimD] using this
  | succ m ih =>
    intro k hm hk
    obtain ⟨k, rfl⟩ : ∃ q, k = q + 2 := ⟨k - 2, by omega⟩
    have e1 : wrap64 (((m + 1 : Nat) : Int) - 1) = (m : Int) := by unfold wrap64; omega
    have e2 : y.take (m + 1) = y.take m ++ [y.getD m 0] := by
      rw [List.getD_eq_getElem?_getD, List.getElem?_eq_getElem (by omega), Option.getD_some, List.take_succ_eq_append_getElem (by omega)]
    rw [show k + 2 = (k + 1) + 1 from rfl]
    simp only [spec_l5Trim.l0]
    rw [e1, if_pos (by omega), if_pos (by omega), if_pos (by omega), e_rd0]
    by_cases c : y.getD m 0 = 0
    · have := ih (k + 1) (by omega) (by omega)
      simp only [spec_l5Trim.l0] at this
      rw [if_pos c, e2, c, MN.trimD_snoc_zero]
      (try simp only [spec_l5Trim.l0])
      exact this
    · rw [if_neg c]
      simp only [spec_l5Trim.j1]
      have := e_sTrim_copy y hl (m + 1) hm (m + 1) k 0 (by omega) (by omega)
      rw [e2, MN.trimD_snoc_ne _ c, ← e2]
      simpa using this
theorem e_sTrim (k : Nat) (y : List Int) (hl : y.length ≤ 2000) (hk : 4005 ≤ k) : spec_l5Trim.f k y = some (MN.trimD y) := by
  unfold spec_l5Trim.f
  rw [e_sTrim_l y hl y.length k (Nat.le_refl _) (by omega), List.take_length]
theorem e_iTrim_l (y : List Int) (hl : y.length ≤ 2000) : ∀ (m k : Nat), m ≤ y.length → m < k → impl_trim.l0 k (y.take m) = some (MN.trimD (y.take m)) := by
  intro m
  induction m with
  | zero =>
    intro k hm hk
    obtain ⟨k, rfl⟩ : ∃ q, k = q + 1 := ⟨k - 1, by omega⟩
    simp only [impl_trim.l0]
    rw [if_neg (by simp)]; simp [MN.trimD]
  | succ m ih =>
    intro k hm hk
    obtain ⟨k, rfl⟩ : ∃ q, k = q + 1 := ⟨k - 1, by omega⟩
    have hlen : (y.take (m + 1)).length = m + 1 := by rw [List.length_take]; omega
    have e1 : wrap64 (((m + 1 : Nat) : Int) - 1) = (m : Int) := by unfold wrap64; omega
    have e2 : y.take (m + 1) = y.take m ++ [y.getD m 0] := by
      rw [List.getD_eq_getElem?_getD, List.getElem?_eq_getElem (by omega), Option.getD_some, List.take_succ_eq_append_getElem (by omega)]
    have e3 : (y.take (m + 1)).getD m 0 = y.getD m 0 := by
      rw [List.getD_eq_getElem?_getD, List.getD_eq_getElem?_getD, List.getElem?_take_of_lt (by omega)]
    have e4 : (y.take (m + 1)).take m = y.take m := by rw [List.take_take, Nat.min_eq_left (by omega)]
    simp only [impl_trim.l0]
    rw [hlen, e1, if_pos (by omega), if_pos (by omega), if_pos (by omega), e_rd0, e3]
    by_cases c : y.getD m 0 = 0
    · rw [if_pos c, if_pos (by omega), Int.toNat_natCast, e4, ih k (by omega) (by omega), e2, c, MN.trimD_snoc_zero]
    · rw [if_neg c, e2, MN.trimD_snoc_ne _ c]
theorem e_iTrim (k : Nat) (y : List Int) (hl : y.length ≤ 2000) (hk : 2000 < k) : impl_trim.f k y = some (MN.trimD y) := by
  unfold impl_trim.f
  have := e_iTrim_l y hl y.length k (Nat.le_refl _) (by omega)
  rwa [List.take_length] at this
theorem i64_mask16 (n : Int) (h0 : 0 ≤ n) (h1 : n < 9223372036854775808) : Go.bits .and .i64 n 65535 = n % 65536 := by
  have := bits_mask .i64 63 (by decide) (fun n h0 h1 => by rw [IntKind.wrap_i64]; omega) 16 (by decide) n h0 (by omega)
  exact this
theorem mul_bound {a b : Int} (ha : 0 ≤ a ∧ a < 65536) (hb : 0 ≤ b ∧ b < 65536) : 0 ≤ a * b ∧ a * b ≤ 4294836225 := by
  refine ⟨Int.mul_nonneg ha.1 hb.1, ?_⟩
  have := Int.mul_le_mul (show a ≤ 65535 by omega) (show b ≤ 65535 by omega) hb.1 (by decide)
  omega
theorem drop_val (b : List Int) (j : Nat) (hj : j < b.length) : MN.val (b.drop j) = b.getD j 0 + 65536 * MN.val (b.drop (j + 1)) := by
  rw [List.drop_eq_getElem_cons hj, List.getD_eq_getElem?_getD, List.getElem?_eq_getElem hj]; rfl
theorem take_val (a : List Int) (i : Nat) (hi : i < a.length) : MN.val (a.take (i + 1)) = MN.val (a.take i) + MN.pw i * a.getD i 0 := by
  rw [List.take_succ_eq_append_getElem hi, MN.val_append, List.length_take, Nat.min_eq_left (by omega), List.getD_eq_getElem?_getD, List.getElem?_eq_getElem hi]
  simp [MN.val]
theorem getD_set_ne (x : List Int) (i m : Nat) (v : Int) (h : i ≠ m) : (x.set i v).getD m 0 = x.getD m 0 := by
  rw [List.getD_eq_getElem?_getD, List.getD_eq_getElem?_getD, List.getElem?_set_ne h]
theorem step_val (vx P xd a bj c s vb : Int) (hs : s = xd + a * bj + c) : vx + P * (s % 65536 - xd) + s / 65536 * (65536 * P) + a * vb * (65536 * P) = vx + c * P + a * (bj + 65536 * vb) * P := by
  have h : s = 65536 * (s / 65536) + s % 65536 := (Int.mul_ediv_add_emod s 65536).symm
  generalize s / 65536 = q at *
  generalize s % 65536 = r at *
  grind
theorem e_sMul_in (a b : List Int) (ha : MN.DOk a) (hb : MN.DOk b) (la : a.length ≤ 1024) (lb : b.length ≤ 256) (i n : Nat) (hi : i < a.length) (hn : i + b.length < n ∧ n ≤ 1300) : ∀ (d k : Nat) (x : List Int) (c : Int) (j : Nat), j + d = b.length → x.length = n → MN.DOk x → 0 ≤ c ∧ c < 65536 → (∀ m, i + b.length ≤ m → x.getD m 0 = 0) →
    ∃ x' c', spec_l5Mul.l1 (k + d + 1) a b x (i : Int) c (j : Int) = spec_l5Mul.l0 k a b (x'.set (i + b.length) c') ((i + 1 : Nat) : Int) ∧ x'.length = n ∧ MN.DOk x' ∧ (0 ≤ c' ∧ c' < 65536) ∧
      MN.val x' + c' * MN.pw (i + b.length) = MN.val x + c * MN.pw (i + j) + a.getD i 0 * MN.val (b.drop j) * MN.pw (i + j) ∧ ∀ m, i + b.length ≤ m → x'.getD m 0 = 0 := by
  intro d
  induction d with
  | zero =>
    intro k x c j hj hx hd hc hz
    have : j = b.length := by omega
    subst this
    have e1 : wrap64 ((i : Int) + (b.length : Int)) = ((i + b.length : Nat) : Int) := by unfold wrap64; omega
    have e2 : wrap64 ((i : Int) + 1) = ((i + 1 : Nat) : Int) := by unfold wrap64; omega
    refine ⟨x, c, ?_, hx, hd, hc, by simp [MN.val], hz⟩
    rw [show k + 0 + 1 = k + 1 from rfl]
    simp only [spec_l5Mul.l1]
    rw [if_neg (by omega), e1, e2, if_pos (by omega), if_pos (by omega), Int.toNat_natCast]
  | succ d ih =>
    intro k x c j hj hx hd hc hz
    have e1 : wrap64 ((i : Int) + (j : Int)) = ((i + j : Nat) : Int) := by unfold wrap64; omega
    have e2 : wrap64 ((j : Int) + 1) = ((j + 1 : Nat) : Int) := by unfold wrap64; omega
    have ra := ha.getD i
    have rb := hb.getD j
    have rx := hd.getD (i + j)
    have mb := mul_bound ra rb
    have hs : ∃ s, s = x.getD (i + j) 0 + a.getD i 0 * b.getD j 0 + c := ⟨_, rfl⟩
    obtain ⟨s, hs⟩ := hs
    have bs : 0 ≤ s ∧ s ≤ 4294967295 := by omega
    have w1 : wrap64 (a.getD i 0 * b.getD j 0) = a.getD i 0 * b.getD j 0 := by generalize a.getD i 0 * b.getD j 0 = z at *; unfold wrap64; omega
    have w2 : wrap64 (wrap64 (x.getD (i + j) 0 + a.getD i 0 * b.getD j 0) + c) = s := by generalize a.getD i 0 * b.getD j 0 = z at *; unfold wrap64; omega
    have w3 : Int.tmod s 65536 = s % 65536 := Int.tmod_eq_emod_of_nonneg bs.1
    have w4 : wrap64 (Int.tdiv s 65536) = s / 65536 := by rw [Int.tdiv_eq_ediv_of_nonneg bs.1]; unfold wrap64; omega
    obtain ⟨x', c', f1, f2, f3, f4, f5, f6⟩ := ih k (x.set (i + j) (s % 65536)) (s / 65536) (j + 1) (by omega) (by rw [List.length_set]; exact hx) (hd.set _ (by omega) (by omega)) (by omega)
      (fun m hm => by rw [getD_set_ne _ _ _ _ (by omega)]; exact hz m hm)
    refine ⟨x', c', ?_, f2, f3, f4, ?_, f6⟩
    · rw [← f1, show k + (d + 1) + 1 = (k + d + 1) + 1 by omega]
      obtain ⟨K, hK⟩ : ∃ K, K = k + d + 1 := ⟨_, rfl⟩
      rw [← hK]
      conv => lhs; rw [spec_l5Mul.l1]
      rw [e1, e2, if_pos (by omega), if_pos (by omega), if_pos (by omega), if_pos (by omega), if_pos (by omega), if_pos (by omega), e_rd0, e_rd0, e_rd0, w1, w2, w3, w4, Int.toNat_natCast]
    · rw [f5, MN.val_set (by omega), drop_val b j (by omega), show i + (j + 1) = (i + j) + 1 by omega, MN.pw_succ]
      exact step_val _ _ _ _ _ _ _ _ hs
theorem e_iMul_in (a b : List Int) (ha : MN.DOk a) (hb : MN.DOk b) (la : a.length ≤ 1024) (lb : b.length ≤ 256) (i n : Nat) (hi : i < a.length) (hn : i + b.length < n ∧ n ≤ 1300) : ∀ (d k : Nat) (x : List Int) (c : Int) (j : Nat), j + d = b.length → x.length = n → MN.DOk x → 0 ≤ c ∧ c < 65536 → (∀ m, i + b.length ≤ m → x.getD m 0 = 0) →
    ∃ x' c', impl_natMul.l1 (k + d + 1) b x (i : Int) (a.getD i 0) c a (a.length : Int) (i : Int) b (b.length : Int) (j : Int) = impl_natMul.l0 k b (x'.set (i + b.length) c') a (a.length : Int) ((i + 1 : Nat) : Int) ∧ x'.length = n ∧ MN.DOk x' ∧ (0 ≤ c' ∧ c' < 65536) ∧
      MN.val x' + c' * MN.pw (i + b.length) = MN.val x + c * MN.pw (i + j) + a.getD i 0 * MN.val (b.drop j) * MN.pw (i + j) ∧ ∀ m, i + b.length ≤ m → x'.getD m 0 = 0 := by
  intro d
  induction d with
  | zero =>
    intro k x c j hj hx hd hc hz
    have : j = b.length := by omega
    subst this
    have e1 : wrap64 ((i : Int) + (b.length : Int)) = ((i + b.length : Nat) : Int) := by unfold wrap64; omega
    have e2 : wrap64 ((i : Int) + 1) = ((i + 1 : Nat) : Int) := by unfold wrap64; omega
    refine ⟨x, c, ?_, hx, hd, hc, by simp [MN.val], hz⟩
    rw [show k + 0 + 1 = k + 1 from rfl]
    simp only [impl_natMul.l1]
    have w0 : wrap64 (0 + c) = c := by unfold wrap64; omega
    rw [if_neg (by omega), e1, e2, if_pos (by omega), if_pos (by omega), Int.toNat_natCast, e_rd0, hz _ (Nat.le_refl _), w0]
  | succ d ih =>
    intro k x c j hj hx hd hc hz
    have e1 : wrap64 ((i : Int) + (j : Int)) = ((i + j : Nat) : Int) := by unfold wrap64; omega
    have e2 : wrap64 ((j : Int) + 1) = ((j + 1 : Nat) : Int) := by unfold wrap64; omega
    have ra := ha.getD i
    have rb := hb.getD j
    have rx := hd.getD (i + j)
    have mb := mul_bound ra rb
    have hs : ∃ s, s = x.getD (i + j) 0 + a.getD i 0 * b.getD j 0 + c := ⟨_, rfl⟩
    obtain ⟨s, hs⟩ := hs
    have bs : 0 ≤ s ∧ s ≤ 4294967295 := by omega
    have w1 : wrap64 (a.getD i 0 * b.getD j 0) = a.getD i 0 * b.getD j 0 := by generalize a.getD i 0 * b.getD j 0 = z at *; unfold wrap64; omega
    have w2 : wrap64 (wrap64 (x.getD (i + j) 0 + a.getD i 0 * b.getD j 0) + c) = s := by generalize a.getD i 0 * b.getD j 0 = z at *; unfold wrap64; omega
    have w3 : Go.bits .and .i64 s 65535 = s % 65536 := i64_mask16 s bs.1 (by omega)
    obtain ⟨x', c', f1, f2, f3, f4, f5, f6⟩ := ih k (x.set (i + j) (s % 65536)) (s / 65536) (j + 1) (by omega) (by rw [List.length_set]; exact hx) (hd.set _ (by omega) (by omega)) (by omega)
      (fun m hm => by rw [getD_set_ne _ _ _ _ (by omega)]; exact hz m hm)
    refine ⟨x', c', ?_, f2, f3, f4, ?_, f6⟩
    · rw [← f1, show k + (d + 1) + 1 = (k + d + 1) + 1 by omega]
      obtain ⟨K, hK⟩ : ∃ K, K = k + d + 1 := ⟨_, rfl⟩
      rw [← hK]
      conv => lhs; rw [impl_natMul.l1]
      rw [e1, e2, if_pos (by omega), if_pos (by omega), if_pos (by omega), if_pos (by omega), if_pos (by omega), e_rd0, e_rd0, w1, w2, w3, Int.toNat_natCast]
    · rw [f5, MN.val_set (by omega), drop_val b j (by omega), show i + (j + 1) = (i + j) + 1 by omega, MN.pw_succ]
      exact step_val _ _ _ _ _ _ _ _ hs
theorem e_sMul_out (a b : List Int) (ha : MN.DOk a) (hb : MN.DOk b) (la : a.length ≤ 1024) (lb : b.length ≤ 256) (n : Nat) (hn : a.length + b.length ≤ n ∧ n ≤ 1300) : ∀ (d k : Nat) (x : List Int) (i : Nat), i + d = a.length → x.length = n → MN.DOk x → MN.val x = MN.val (a.take i) * MN.val b → (∀ m, i + b.length ≤ m → x.getD m 0 = 0) →
    ∃ y, spec_l5Mul.l0 (k + d * (b.length + 2) + 1) a b x (i : Int) = (spec_l5Trim.f k y).bind some ∧ y.length = n ∧ MN.DOk y ∧ MN.val y = MN.val a * MN.val b := by
  intro d
  induction d with
  | zero =>
    intro k x i hi hx hd hv hz
    have : i = a.length := by omega
    subst this
    rw [List.take_length] at hv
    refine ⟨x, ?_, hx, hd, hv⟩
    rw [show k + 0 * (b.length + 2) + 1 = k + 1 by omega]
    simp only [spec_l5Mul.l0]
    rw [if_neg (by omega)]
  | succ d ih =>
    intro k x i hi hx hd hv hz
    obtain ⟨x', c', f1, f2, f3, f4, f5, f6⟩ := e_sMul_in a b ha hb la lb i n (by omega) (by omega) b.length (k + d * (b.length + 2) + 1) x 0 0 (by omega) hx hd (by omega) hz
    have hv2 : MN.val (x'.set (i + b.length) c') = MN.val (a.take (i + 1)) * MN.val b := by
      rw [MN.val_set (by omega), f6 _ (Nat.le_refl _), take_val a i (by omega)]
      rw [hv, List.drop_zero] at f5
      simp only [Nat.add_zero] at f5
      grind
    obtain ⟨y, g1, g2, g3, g4⟩ := ih k (x'.set (i + b.length) c') (i + 1) (by omega) (by rw [List.length_set]; exact f2) (f3.set _ f4.1 f4.2) hv2
      (fun m hm => by rw [getD_set_ne _ _ _ _ (by omega)]; exact f6 m (by omega))
    refine ⟨y, ?_, g2, g3, g4⟩
    rw [← g1, ← f1, show k + (d + 1) * (b.length + 2) + 1 = (k + d * (b.length + 2) + 1 + b.length + 1) + 1 by rw [Nat.succ_mul]; omega]
    obtain ⟨K, hK⟩ : ∃ K, K = k + d * (b.length + 2) + 1 + b.length + 1 := ⟨_, rfl⟩
    rw [← hK]
    conv => lhs; rw [spec_l5Mul.l0]
    rw [if_pos (by omega)]; rfl
theorem e_iMul_out (a b : List Int) (ha : MN.DOk a) (hb : MN.DOk b) (la : a.length ≤ 1024) (lb : b.length ≤ 256) (n : Nat) (hn : a.length + b.length ≤ n ∧ n ≤ 1300) : ∀ (d k : Nat) (x : List Int) (i : Nat), i + d = a.length → x.length = n → MN.DOk x → MN.val x = MN.val (a.take i) * MN.val b → (∀ m, i + b.length ≤ m → x.getD m 0 = 0) →
    ∃ y, impl_natMul.l0 (k + d * (b.length + 2) + 1) b x a (a.length : Int) (i : Int) = (impl_trim.f k y).bind some ∧ y.length = n ∧ MN.DOk y ∧ MN.val y = MN.val a * MN.val b := by
  intro d
  induction d with
  | zero =>
    intro k x i hi hx hd hv hz
    have : i = a.length := by omega
    subst this
    rw [List.take_length] at hv
    refine ⟨x, ?_, hx, hd, hv⟩
    rw [show k + 0 * (b.length + 2) + 1 = k + 1 by omega]
    simp only [impl_natMul.l0]
    rw [if_neg (by omega)]
  | succ d ih =>
    intro k x i hi hx hd hv hz
    obtain ⟨x', c', f1, f2, f3, f4, f5, f6⟩ := e_iMul_in a b ha hb la lb i n (by omega) (by omega) b.length (k + d * (b.length + 2) + 1) x 0 0 (by omega) hx hd (by omega) hz
    have hv2 : MN.val (x'.set (i + b.length) c') = MN.val (a.take (i + 1)) * MN.val b := by
      rw [MN.val_set (by omega), f6 _ (Nat.le_refl _), take_val a i (by omega)]
      rw [hv, List.drop_zero] at f5
      simp only [Nat.add_zero] at f5
      grind
    obtain ⟨y, g1, g2, g3, g4⟩ := ih k (x'.set (i + b.length) c') (i + 1) (by omega) (by rw [List.length_set]; exact f2) (f3.set _ f4.1 f4.2) hv2
      (fun m hm => by rw [getD_set_ne _ _ _ _ (by omega)]; exact f6 m (by omega))
    refine ⟨y, ?_, g2, g3, g4⟩
    rw [← g1, ← f1, show k + (d + 1) * (b.length + 2) + 1 = (k + d * (b.length + 2) + 1 + b.length + 1) + 1 by rw [Nat.succ_mul]; omega]
    obtain ⟨K, hK⟩ : ∃ K, K = k + d * (b.length + 2) + 1 + b.length + 1 := ⟨_, rfl⟩
    rw [← hK]
    conv => lhs; rw [impl_natMul.l0]
    rw [if_pos (by omega), if_pos (by omega), if_pos (by omega), e_rd0]; rfl
theorem e_sMul (k : Nat) (a b : List Int) (ha : MN.DOk a) (hb : MN.DOk b) (la : a.length ≤ 1024) (lb : b.length ≤ 256) (hk : 300000 ≤ k) : ∃ y, spec_l5Mul.f k a b = some (MN.trimD y) ∧ y.length ≤ 1300 ∧ MN.DOk y ∧ MN.val y = MN.val a * MN.val b := by
  have e1 : wrap64 ((a.length : Int) + (b.length : Int)) = ((a.length + b.length : Nat) : Int) := by unfold wrap64; omega
  have hfu : a.length * (b.length + 2) ≤ 1024 * 258 := Nat.mul_le_mul la (by omega)
  obtain ⟨K, hK⟩ : ∃ K, k = K + a.length * (b.length + 2) + 1 := ⟨k - a.length * (b.length + 2) - 1, by omega⟩
  obtain ⟨y, g1, g2, g3, g4⟩ := e_sMul_out a b ha hb la lb (a.length + b.length) (by omega) a.length K (List.replicate (a.length + b.length) 0) 0 (by omega) (by simp) (MN.DOk.replicate _) (by rw [MN.val_replicate]; simp [MN.val])
    (fun m _ => by rw [List.getD_eq_getElem?_getD, List.getElem?_replicate]; split <;> rfl)
  refine ⟨y, ?_, by omega, g3, g4⟩
  unfold spec_l5Mul.f
  rw [e1, if_pos (by omega), if_pos (by omega), Int.toNat_natCast, hK]
  rw [show ((0 : Nat) : Int) = 0 from rfl] at g1
  rw [g1, e_sTrim K y (by omega) (by omega)]; rfl
theorem e_iMul (k : Nat) (a b : List Int) (ha : MN.DOk a) (hb : MN.DOk b) (la : a.length ≤ 1024) (lb : b.length ≤ 256) (hk : 300000 ≤ k) : ∃ y, impl_natMul.f k a b = some (MN.trimD y) ∧ y.length ≤ 1300 ∧ MN.DOk y ∧ MN.val y = MN.val a * MN.val b := by
  have e1 : wrap64 (wrap64 ((a.length : Int) + (b.length : Int)) + 1) = ((a.length + b.length + 1 : Nat) : Int) := by unfold wrap64; omega
  have hfu : a.length * (b.length + 2) ≤ 1024 * 258 := Nat.mul_le_mul la (by omega)
  obtain ⟨K, hK⟩ : ∃ K, k = K + a.length * (b.length + 2) + 1 := ⟨k - a.length * (b.length + 2) - 1, by omega⟩
  obtain ⟨y, g1, g2, g3, g4⟩ := e_iMul_out a b ha hb la lb (a.length + b.length + 1) (by omega) a.length K (List.replicate (a.length + b.length + 1) 0) 0 (by omega) (by simp) (MN.DOk.replicate _) (by rw [MN.val_replicate]; simp [MN.val])
    (fun m _ => by rw [List.getD_eq_getElem?_getD, List.getElem?_replicate]; split <;> rfl)
  refine ⟨y, ?_, by omega, g3, g4⟩
  unfold impl_natMul.f
  rw [e1, if_pos (by omega), if_pos (by omega), Int.toNat_natCast, hK]
  rw [show ((0 : Nat) : Int) = 0 from rfl] at g1
  rw [g1, e_iTrim K y (by omega) (by omega)]; rfl
theorem alg1 (A P x y w VA VB : Int) (h : A - w * P = VA - VB) : A + P * ((x - y - w + 65536) + 65536 * 0) - 1 * (65536 * P) = (VA + P * x) - (VB + P * y) := by grind
theorem alg2 (A P x y w VA VB : Int) (h : A - w * P = VA - VB) : A + P * ((x - y - w) + 65536 * 0) - 0 * (65536 * P) = (VA + P * x) - (VB + P * y) := by grind
theorem take_val' (a : List Int) (i : Nat) : MN.val (a.take (i + 1)) = MN.val (a.take i) + MN.pw i * a.getD i 0 := by
  by_cases hi : i < a.length
  · exact take_val a i hi
  · rw [List.take_of_length_le (by omega), List.take_of_length_le (by omega), List.getD_eq_getElem?_getD, List.getElem?_eq_none (by omega)]; simp
theorem dok_of {x : List Int} (h : ∀ m, m < x.length → 0 ≤ x.getD m 0 ∧ x.getD m 0 < 65536) : MN.DOk x := by
  intro d hd
  obtain ⟨i, hi, rfl⟩ := List.getElem_of_mem hd
  have := h i hi
  rwa [List.getD_eq_getElem?_getD, List.getElem?_eq_getElem hi, Option.getD_some] at this
theorem getD_set_eq (x : List Int) (i : Nat) (v : Int) (h : i < x.length) : (x.set i v).getD i 0 = v := by
  rw [List.getD_eq_getElem?_getD, List.getElem?_set_self h]; rfl
theorem getD_take (x : List Int) (i m : Nat) (h : m < i) : (x.take i).getD m 0 = x.getD m 0 := by
  rw [List.getD_eq_getElem?_getD, List.getD_eq_getElem?_getD, List.getElem?_take_of_lt h]
theorem e_sSub_l (a b : List Int) (ha : MN.DOk a) (hb : MN.DOk b) (la : a.length ≤ 256) : ∀ (d k : Nat) (acc : List Int) (w : Int) (i : Nat), i + d = a.length → acc.length = i → MN.DOk acc → (w = 0 ∨ w = 1) → MN.val acc - w * MN.pw i = MN.val (a.take i) - MN.val (b.take i) →
    ∃ (y : List Int) (w' : Int), spec_l5Sub.l0 (k + d + 1) a b acc w (i : Int) = (spec_l5Trim.f k y).bind some ∧ y.length = a.length ∧ MN.DOk y ∧ (w' = 0 ∨ w' = 1) ∧ MN.val y - w' * MN.pw a.length = MN.val a - MN.val (b.take a.length) := by
  intro d
  induction d with
  | zero =>
    intro k acc w i hi hl hd hw
    have : i = a.length := by omega
    subst this
    have hn : ¬ ((a.length : Nat) : Int) < (a.length : Int) := by omega
    intro hv
    refine ⟨acc, w, ?_, hl, hd, hw, by rwa [List.take_length] at hv⟩
    rw [show k + 0 + 1 = k + 1 from rfl]
    simp only [spec_l5Sub.l0]
    rw [if_neg hn]
  | succ d ih =>
    intro k acc w i hi hl hd hw
    have ra := ha.getD i
    have rb := hb.getD i
    have eat : spec_l5At.f b (i : Int) = some (b.getD i 0) := by
      unfold spec_l5At.f
      by_cases c : (i : Int) < b.length
      · rw [if_pos c, if_pos (by omega), e_rd0]
      · rw [if_neg c, List.getD_eq_getElem?_getD, List.getElem?_eq_none (by omega)]; rfl
    have e2 : wrap64 ((i : Int) + 1) = ((i + 1 : Nat) : Int) := by unfold wrap64; omega
    have w1 : wrap64 (wrap64 (a.getD i 0 - b.getD i 0) - w) = a.getD i 0 - b.getD i 0 - w := by generalize a.getD i 0 = x at *; generalize b.getD i 0 = y at *; unfold wrap64; omega
    have w2 : wrap64 (a.getD i 0 - b.getD i 0 - w + 65536) = a.getD i 0 - b.getD i 0 - w + 65536 := by generalize a.getD i 0 = x at *; generalize b.getD i 0 = y at *; unfold wrap64; omega
    have h3 : i + 1 + d = a.length := by omega
    have h4 : (acc ++ [0]).length = i + 1 := by rw [List.length_append]; simp; omega
    obtain ⟨K, hK⟩ : ∃ K, K = k + d + 1 := ⟨_, rfl⟩
    rw [show k + (d + 1) + 1 = (k + d + 1) + 1 by omega, ← hK]
    by_cases c : a.getD i 0 - b.getD i 0 - w < 0
    · have st : spec_l5Sub.l0 (K + 1) a b acc w (i : Int) = spec_l5Sub.l0 K a b (acc ++ [a.getD i 0 - b.getD i 0 - w + 65536]) 1 ((i + 1 : Nat) : Int) := by
        simp only [spec_l5Sub.l0, eat, Option.bind_some]
        rw [if_pos (by omega), if_pos (by omega), e_rd0, w1, w2, e2, if_pos c, if_pos (by omega)]
      have d1 : 0 ≤ a.getD i 0 - b.getD i 0 - w + 65536 := by omega
      have d2 : a.getD i 0 - b.getD i 0 - w + 65536 < 65536 := by omega
      intro hv
      obtain ⟨y, w', g1, g⟩ := ih k (acc ++ [a.getD i 0 - b.getD i 0 - w + 65536]) 1 (i + 1) h3 (by rw [List.length_append] at h4 ⊢; exact h4) (hd.append (MN.DOk.cons d1 d2 MN.DOk.nil)) (by first | exact .inl rfl | exact .inr rfl) (by
        rw [MN.val_append, hl, MN.pw_succ, take_val' a i, take_val' b i]
        simp only [MN.val]
        exact alg1 _ _ _ _ _ _ _ hv)
      subst hK; exact ⟨y, w', st.trans g1, g⟩
    · have st : spec_l5Sub.l0 (K + 1) a b acc w (i : Int) = spec_l5Sub.l0 K a b (acc ++ [a.getD i 0 - b.getD i 0 - w]) 0 ((i + 1 : Nat) : Int) := by
        simp only [spec_l5Sub.l0, eat, Option.bind_some]
        rw [if_pos (by omega), if_pos (by omega), e_rd0, w1, e2, if_neg c, if_pos (by omega)]
      have d1 : 0 ≤ a.getD i 0 - b.getD i 0 - w := by omega
      have d2 : a.getD i 0 - b.getD i 0 - w < 65536 := by omega
      intro hv
      obtain ⟨y, w', g1, g⟩ := ih k (acc ++ [a.getD i 0 - b.getD i 0 - w]) 0 (i + 1) h3 (by rw [List.length_append] at h4 ⊢; exact h4) (hd.append (MN.DOk.cons d1 d2 MN.DOk.nil)) (by first | exact .inl rfl | exact .inr rfl) (by
        rw [MN.val_append, hl, MN.pw_succ, take_val' a i, take_val' b i]
        simp only [MN.val]
        exact alg2 _ _ _ _ _ _ _ hv)
      subst hK; exact ⟨y, w', st.trans g1, g⟩
theorem e_sSub (k : Nat) (a b : List Int) (ha : MN.DOk a) (hb : MN.DOk b) (la : a.length ≤ 256) (hlb : b.length ≤ a.length) (hv : MN.val b ≤ MN.val a) (hk : 6000 ≤ k) : ∃ y, spec_l5Sub.f k a b = some (MN.trimD y) ∧ y.length ≤ 256 ∧ MN.DOk y ∧ MN.val y = MN.val a - MN.val b := by
  obtain ⟨K, hK⟩ : ∃ K, k = K + a.length + 1 := ⟨k - a.length - 1, by omega⟩
  obtain ⟨y, w, g1, g2, g3, g4, g5⟩ := e_sSub_l a b ha hb la a.length K [] 0 0 (by omega) rfl MN.DOk.nil (by omega) (by simp [MN.val])
  rw [List.take_of_length_le hlb] at g5
  have h1 := MN.val_lt g3
  rw [g2] at h1
  have hw : w = 0 := by
    rcases g4 with h | h
    · exact h
    · subst h; omega
  subst hw
  refine ⟨y, ?_, by omega, g3, by omega⟩
  unfold spec_l5Sub.f
  rw [show ((0 : Nat) : Int) = 0 from rfl] at g1
  rw [hK, g1, e_sTrim K y (by omega) (by omega)]; rfl
theorem at_eat (b : List Int) (i : Nat) : spec_l5At.f b (i : Int) = some (b.getD i 0) := by
  unfold spec_l5At.f
  by_cases c : (i : Int) < b.length
  · rw [if_pos c, if_pos (by omega), e_rd0]
  · rw [if_neg c, List.getD_eq_getElem?_getD, List.getElem?_eq_none (by omega)]; rfl
theorem algA (A P x y c VA VB s : Int) (h : A + c * P = VA + VB) (hs : s = x + y + c) : A + P * (s % 65536 + 65536 * 0) + (s / 65536) * (65536 * P) = (VA + P * x) + (VB + P * y) := by
  have h2 : s = 65536 * (s / 65536) + s % 65536 := (Int.mul_ediv_add_emod s 65536).symm
  generalize s / 65536 = q at *
  generalize s % 65536 = r at *
  grind
theorem sAdd_w (x y c : Int) (hx : 0 ≤ x ∧ x < 65536) (hy : 0 ≤ y ∧ y < 65536) (hc : c = 0 ∨ c = 1) : ∃ s, s = x + y + c ∧ 0 ≤ s ∧ s ≤ 131071 ∧ wrap64 (wrap64 (x + y) + c) = s ∧ Int.tmod s 65536 = s % 65536 ∧ wrap64 (Int.tdiv s 65536) = s / 65536 ∧ (s / 65536 = 0 ∨ s / 65536 = 1) := by
  refine ⟨x + y + c, rfl, by omega, by omega, by unfold wrap64; omega, Int.tmod_eq_emod_of_nonneg (by omega), ?_, by omega⟩
  rw [Int.tdiv_eq_ediv_of_nonneg (by omega)]; unfold wrap64; omega
theorem e_sAdd_l (a b : List Int) (ha : MN.DOk a) (hb : MN.DOk b) (n : Nat) (hn : n ≤ 1024) : ∀ (d k : Nat) (acc : List Int) (c : Int) (i : Nat), i + d = n → acc.length = i → MN.DOk acc → (c = 0 ∨ c = 1) → MN.val acc + c * MN.pw i = MN.val (a.take i) + MN.val (b.take i) →
    ∃ (y : List Int) (c' : Int), spec_l5Add.l0 (k + d + 1) a b (n : Int) acc c (i : Int) = some (if c' > 0 then y ++ [c'] else y) ∧ y.length = n ∧ MN.DOk y ∧ (c' = 0 ∨ c' = 1) ∧ MN.val y + c' * MN.pw n = MN.val (a.take n) + MN.val (b.take n) := by
  intro d
  induction d with
  | zero =>
    intro k acc c i hi hl hd hc hv
    have : i = n := by omega
    subst this
    refine ⟨acc, c, ?_, hl, hd, hc, hv⟩
    rw [show k + 0 + 1 = k + 1 from rfl]
    simp only [spec_l5Add.l0]
    rw [if_neg (by omega)]
    by_cases h : c > 0
    · rw [if_pos h, if_pos h, if_pos (by omega)]
    · rw [if_neg h, if_neg h]
  | succ d ih =>
    intro k acc c i hi hl hd hc hv
    have e2 : wrap64 ((i : Int) + 1) = ((i + 1 : Nat) : Int) := by clear hv; unfold wrap64; omega
    obtain ⟨s, s1, s2, s3, s4, s5, s6, s7⟩ := sAdd_w (a.getD i 0) (b.getD i 0) c (ha.getD i) (hb.getD i) hc
    have st : spec_l5Add.l0 ((k + d + 1) + 1) a b (n : Int) acc c (i : Int) = spec_l5Add.l0 (k + d + 1) a b (n : Int) (acc ++ [s % 65536]) (s / 65536) ((i + 1 : Nat) : Int) := by
      obtain ⟨K, hK⟩ : ∃ K, K = k + d + 1 := ⟨_, rfl⟩
      rw [← hK]
      conv => lhs; rw [spec_l5Add.l0]
      rw [if_pos (by clear hv; omega), at_eat, Option.bind_some, at_eat, Option.bind_some, if_pos (by clear hv; omega), s4, s5, s6, e2]
    obtain ⟨y, c', g1, g⟩ := ih k (acc ++ [s % 65536]) (s / 65536) (i + 1) (by clear hv; omega) (by rw [List.length_append]; simp; clear hv; omega) (hd.append (MN.DOk.cons (by clear hv; omega) (by clear hv; omega) MN.DOk.nil)) s7 (by
      rw [MN.val_append, hl, MN.pw_succ, take_val' a i, take_val' b i]
      simp only [MN.val]
      exact algA _ _ _ _ _ _ _ _ hv s1)
    exact ⟨y, c', (show k + (d + 1) + 1 = (k + d + 1) + 1 from rfl) ▸ st.trans g1, g⟩
theorem can_last {y : List Int} (h : MN.DOk y) (hv : y ≠ [] → MN.pw (y.length - 1) ≤ MN.val y) : MN.Can y := by
  refine ⟨h, fun e => ?_⟩
  obtain ⟨z, rfl⟩ := List.getLast?_eq_some_iff.mp e
  have h1 := hv (by simp)
  rw [MN.val_append] at h1
  have h2 := MN.val_lt h.left
  have : (z ++ [0]).length - 1 = z.length := by simp
  rw [this] at h1
  simp [MN.val] at h1
  omega
theorem e_sAdd_n (k : Nat) (a b : List Int) (n : Nat) (ca : MN.Can a) (cb : MN.Can b) (la : a.length ≤ n) (lb : b.length ≤ n) (hn : n ≤ 1024) (hm : a.length = n ∨ b.length = n) (hk : 1100 ≤ k) :
    ∃ y, spec_l5Add.j0 k a b (n : Int) = some y ∧ y.length ≤ 1025 ∧ MN.Can y ∧ MN.val y = MN.val a + MN.val b := by
  obtain ⟨K, rfl⟩ : ∃ K, k = (K + n + 1) + 1 := ⟨k - n - 2, by omega⟩
  obtain ⟨y, c, g1, g2, g3, g4, g5⟩ := e_sAdd_l a b ca.1 cb.1 n hn n K [] 0 0 (by omega) rfl MN.DOk.nil (.inl rfl) (by simp [MN.val])
  rw [List.take_of_length_le la, List.take_of_length_le lb] at g5
  have va := MN.val_nonneg ca.1
  have vb := MN.val_nonneg cb.1
  have hp := MN.pw_pos n
  rw [spec_l5Add.j0]
  rcases g4 with h | h
  · subst h
    rw [if_neg (by omega)] at g1
    refine ⟨y, g1, by omega, can_last g3 (fun hne => ?_), by omega⟩
    have hne2 : y.length ≠ 0 := fun e => hne (List.eq_nil_of_length_eq_zero e)
    rw [g2] at hne2 ⊢
    rcases hm with h | h
    · have := ca.pos (by intro e; rw [e] at h; simp at h; omega)
      rw [h] at this; omega
    · have := cb.pos (by intro e; rw [e] at h; simp at h; omega)
      rw [h] at this; omega
  · subst h
    rw [if_pos (by omega)] at g1
    refine ⟨y ++ [1], g1, by rw [List.length_append]; simp; omega, ⟨g3.append (MN.DOk.cons (by omega) (by omega) MN.DOk.nil), by simp⟩, ?_⟩
    rw [MN.val_append, g2]
    simp only [MN.val]
    omega
theorem e_sAdd (k : Nat) (a b : List Int) (ca : MN.Can a) (cb : MN.Can b) (la : a.length ≤ 1024) (lb : b.length ≤ 1024) (hk : 1100 ≤ k) :
    ∃ y, spec_l5Add.f k a b = some y ∧ y.length ≤ 1025 ∧ MN.Can y ∧ MN.val y = MN.val a + MN.val b := by
  unfold spec_l5Add.f
  by_cases h : (b.length : Int) > (a.length : Int)
  · rw [if_pos h]
    exact e_sAdd_n k a b b.length ca cb (by omega) (by omega) lb (.inr rfl) hk
  · rw [if_neg h]
    exact e_sAdd_n k a b a.length ca cb (by omega) (by omega) la (.inl rfl) hk
theorem iAdd_eq0 (K : Nat) (x b : List Int) (n i : Int) (h0 : i < n) (h1 : 0 ≤ i) (h2 : i < (b.length : Int)) (h3 : i < (x.length : Int)) :
    impl_natAdd.l0 (K + 1) x b n i = impl_natAdd.l0 K (x.set i.toNat (wrap64 (rd x i + rd b i))) b n (wrap64 (i + 1)) := by
  conv => lhs; rw [impl_natAdd.l0]
  rw [if_pos h0, if_pos h1, if_pos h2, if_pos h3]
theorem iAdd_eq1 (K : Nat) (x : List Int) (n i : Int) (h0 : i < n) (h1 : 0 ≤ wrap64 (i + 1)) (h2 : wrap64 (i + 1) < (x.length : Int)) (h3 : 0 ≤ i) (h4 : i < (x.length : Int)) :
    impl_natAdd.l1 (K + 1) x n i = impl_natAdd.l1 K ((x.set (wrap64 (i + 1)).toNat (wrap64 (rd x (wrap64 (i + 1)) + rd x i / 65536))).set i.toNat (Go.bits .and .i64 (rd (x.set (wrap64 (i + 1)).toNat (wrap64 (rd x (wrap64 (i + 1)) + rd x i / 65536))) i) 65535)) n (wrap64 (i + 1)) := by
  conv => lhs; rw [impl_natAdd.l1]
  rw [if_pos h0, if_pos h1, if_pos h2, if_pos h3, if_pos h4, Option.bind_some]
theorem algB (VA VB P x y : Int) : VA + VB + P * (x + y - x) = VA + (VB + P * y) := by grind
theorem algC (V P x0 x1 : Int) : V + 65536 * P * (x1 + x0 / 65536 - x1) + P * (x0 % 65536 - x0) = V := by
  have h2 : x0 = 65536 * (x0 / 65536) + x0 % 65536 := (Int.mul_ediv_add_emod x0 65536).symm
  generalize x0 / 65536 = q at *
  generalize x0 % 65536 = r at *
  subst h2
  grind
theorem wr_ab (x y : Int) (hx : 0 ≤ x ∧ x ≤ 65535) (hy : 0 ≤ y ∧ y < 65536) : wrap64 (x + y) = x + y := by unfold wrap64; omega
theorem wr_c (x y : Int) (hx : 0 ≤ x ∧ x ≤ 131071) (hy : 0 ≤ y ∧ y ≤ 131071) : wrap64 (x + y / 65536) = x + y / 65536 := by unfold wrap64; omega
theorem e_iAdd_1 (b : List Int) (hb : MN.DOk b) (N : Nat) (hN : b.length < N) (hN2 : N ≤ 1025) (VA : Int) : ∀ (d k : Nat) (x : List Int) (i : Nat), i + d = b.length → x.length = N → (∀ m, 0 ≤ x.getD m 0 ∧ x.getD m 0 ≤ 131070) → (∀ m, i ≤ m → x.getD m 0 ≤ 65535) → x.getD (N - 1) 0 = 0 → MN.val x = VA + MN.val (b.take i) →
    ∃ y, impl_natAdd.l0 (k + d + 1) x b (b.length : Int) (i : Int) = impl_natAdd.l1 k y (wrap64 ((y.length : Int) - 1)) 0 ∧ y.length = N ∧ MN.val y = VA + MN.val b ∧ (∀ m, 0 ≤ y.getD m 0 ∧ y.getD m 0 ≤ 131070) ∧ y.getD (N - 1) 0 = 0 := by
  intro d
  induction d with
  | zero =>
    intro k x i hi hl hr hz h9 hv
    have : i = b.length := by clear hv; omega
    subst this
    refine ⟨x, ?_, hl, by rwa [List.take_length] at hv, hr, h9⟩
    rw [show k + 0 + 1 = k + 1 from rfl]
    simp only [impl_natAdd.l0]
    rw [if_neg (by clear hv; omega)]
  | succ d ih =>
    intro k x i hi hl hr hz h9 hv
    have e2 : wrap64 ((i : Int) + 1) = ((i + 1 : Nat) : Int) := by clear hv; unfold wrap64; omega
    have rx : 0 ≤ x.getD i 0 ∧ x.getD i 0 ≤ 65535 := ⟨(hr i).1, hz i (Nat.le_refl _)⟩
    have rb := hb.getD i
    have w1 := wr_ab _ _ rx rb
    have h4 : i < x.length := by clear hv; omega
    have st := iAdd_eq0 (k + d + 1) x b (b.length : Int) (i : Int) (by clear hv; omega) (Int.natCast_nonneg i) (by clear hv; omega) (by clear hv; omega)
    rw [e2, e_rd0, e_rd0, w1, Int.toNat_natCast] at st
    have hr2 : ∀ m, 0 ≤ (x.set i (x.getD i 0 + b.getD i 0)).getD m 0 ∧ (x.set i (x.getD i 0 + b.getD i 0)).getD m 0 ≤ 131070 := by
      intro m
      by_cases c : i = m
      · subst c; rw [getD_set_eq _ _ _ h4]; clear hv; omega
      · rw [getD_set_ne _ _ _ _ c]; exact hr m
    obtain ⟨y, g1, g⟩ := ih k (x.set i (x.getD i 0 + b.getD i 0)) (i + 1) (by clear hv; omega) (by rw [List.length_set]; exact hl) hr2
      (fun m hm => by rw [getD_set_ne _ _ _ _ (by clear hv; omega)]; exact hz m (by clear hv; omega))
      (by rw [getD_set_ne _ _ _ _ (by clear hv; omega)]; exact h9) (by
      rw [MN.val_set h4, hv, take_val' b i]; exact algB _ _ _ _ _)
    exact ⟨y, (show k + (d + 1) + 1 = (k + d + 1) + 1 from rfl) ▸ st.trans g1, g⟩
theorem e_iAdd_2 (N : Nat) (hN : 0 < N) (hN2 : N ≤ 1025) (V : Int) : ∀ (d k : Nat) (x : List Int) (i : Nat), i + d = N - 1 → x.length = N → (∀ m, m < i → 0 ≤ x.getD m 0 ∧ x.getD m 0 < 65536) → (0 ≤ x.getD i 0 ∧ x.getD i 0 ≤ 131071) → (∀ m, i < m → 0 ≤ x.getD m 0 ∧ x.getD m 0 ≤ 131070) → (x.getD (N - 1) 0 ≤ 1) → (i < N - 1 → x.getD (N - 1) 0 = 0) → MN.val x = V →
    ∃ y, impl_natAdd.l1 (k + d + 1) x ((N - 1 : Nat) : Int) (i : Int) = (impl_trim.f k y).bind some ∧ y.length = N ∧ MN.DOk y ∧ MN.val y = V := by
  intro d
  induction d with
  | zero =>
    intro k x i hi hl h1 h2 h3 h4 h5 hv
    have : i = N - 1 := by clear hv; omega
    subst this
    refine ⟨x, ?_, hl, dok_of (fun m hm => ?_), hv⟩
    · rw [show k + 0 + 1 = k + 1 from rfl]
      simp only [impl_natAdd.l1]
      rw [if_neg (by clear hv; omega)]
    · by_cases c : m < N - 1
      · exact h1 m c
      · have : m = N - 1 := by clear hv; omega
        subst this
        exact ⟨h2.1, by clear hv; omega⟩
  | succ d ih =>
    intro k x i hi hl h1 h2 h3 h4 h5 hv
    have e2 : wrap64 ((i : Int) + 1) = ((i + 1 : Nat) : Int) := by clear hv; unfold wrap64; omega
    have q1 : i + 1 < x.length := by clear hv; omega
    have q0 : i < x.length := by clear hv; omega
    have r1 := h3 (i + 1) (Nat.lt_succ_self i)
    have w1 := wr_c (x.getD (i + 1) 0) (x.getD i 0) ⟨r1.1, by clear hv; omega⟩ h2
    have g1 : (x.set (i + 1) (x.getD (i + 1) 0 + x.getD i 0 / 65536)).getD i 0 = x.getD i 0 := getD_set_ne _ _ _ _ (by clear hv; omega)
    have m1 : Go.bits .and .i64 (x.getD i 0) 65535 = x.getD i 0 % 65536 := i64_mask16 _ h2.1 (by clear hv; omega)
    have st := iAdd_eq1 (k + d + 1) x ((N - 1 : Nat) : Int) (i : Int) (by clear hv; omega) (by rw [e2]; exact Int.natCast_nonneg _) (by rw [e2]; clear hv; omega) (Int.natCast_nonneg i) (by clear hv; omega)
    rw [e2, e_rd0, e_rd0, w1, Int.toNat_natCast, Int.toNat_natCast, e_rd0, g1, m1] at st
    obtain ⟨z, hz⟩ : ∃ z, z = (x.set (i + 1) (x.getD (i + 1) 0 + x.getD i 0 / 65536)).set i (x.getD i 0 % 65536) := ⟨_, rfl⟩
    rw [← hz] at st
    have hzl : z.length = N := by rw [hz, List.length_set, List.length_set]; exact hl
    have z0 : z.getD i 0 = x.getD i 0 % 65536 := by rw [hz, getD_set_eq _ _ _ (by rw [List.length_set]; exact q0)]
    have z1 : z.getD (i + 1) 0 = x.getD (i + 1) 0 + x.getD i 0 / 65536 := by rw [hz, getD_set_ne _ _ _ _ (by clear hv; omega), getD_set_eq _ _ _ q1]
    have z2 : ∀ m, m ≠ i → m ≠ i + 1 → z.getD m 0 = x.getD m 0 := fun m ha hb => by rw [hz, getD_set_ne _ _ _ _ (Ne.symm ha), getD_set_ne _ _ _ _ (Ne.symm hb)]
    have zv : MN.val z = V := by
      rw [hz, MN.val_set (by rw [List.length_set]; exact q0), g1, MN.val_set q1, hv, MN.pw_succ]; exact algC _ _ _ _
    clear hz
    obtain ⟨y, g1', g⟩ := ih k z (i + 1) (by clear hv zv; omega) hzl
      (fun m hm => by
        by_cases c : m = i
        · subst c; rw [z0]; clear hv zv; omega
        · rw [z2 m c (by clear hv zv; omega)]; exact h1 m (by clear hv zv; omega))
      (by rw [z1]; clear hv zv; omega)
      (fun m hm => by rw [z2 m (by clear hv zv; omega) (by clear hv zv; omega)]; exact h3 m (by clear hv zv; omega))
      (by
        by_cases c : N - 1 = i + 1
        · rw [c, z1, ← c, h5 (by clear hv zv; omega)]; clear hv zv; omega
        · rw [z2 _ (by clear hv zv; omega) c]; exact h4)
      (fun hi2 => by rw [z2 _ (by clear hv zv; omega) (by clear hv zv; omega)]; exact h5 (by clear hv zv; omega)) zv
    exact ⟨y, (show k + (d + 1) + 1 = (k + d + 1) + 1 from rfl) ▸ st.trans g1', g⟩
theorem getD_app (a : List Int) (n m : Nat) : (a ++ List.replicate n 0).getD m 0 = a.getD m 0 := by
  rw [List.getD_eq_getElem?_getD, List.getD_eq_getElem?_getD, List.getElem?_append]
  split
  · rfl
  · rw [List.getElem?_replicate, List.getElem?_eq_none (by omega)]; split <;> rfl
theorem e_iAdd (k : Nat) (a b : List Int) (ha : MN.DOk a) (hb : MN.DOk b) (la : a.length ≤ 1024) (lb : b.length ≤ 1024) (hk : 6000 ≤ k) :
    ∃ y, impl_natAdd.f k a b = some (MN.trimD y) ∧ y.length ≤ 1025 ∧ MN.DOk y ∧ MN.val y = MN.val a + MN.val b := by
  obtain ⟨M, hM⟩ : ∃ M : Nat, mx (a.length : Int) (b.length : Int) = (M : Int) ∧ a.length ≤ M ∧ b.length ≤ M ∧ M ≤ 1024 := by
    unfold mx; split
    · exact ⟨b.length, rfl, by omega, by omega, by omega⟩
    · exact ⟨a.length, rfl, by omega, by omega, by omega⟩
  obtain ⟨hM0, hM1, hM2, hM3⟩ := hM
  have e1 : wrap64 ((M : Int) + 1) = ((M + 1 : Nat) : Int) := by unfold wrap64; omega
  obtain ⟨K, hK⟩ : ∃ K, k = (K + M + 1) + b.length + 1 := ⟨k - M - b.length - 2, by omega⟩
  have ra := fun m => ha.getD m
  obtain ⟨x0, hx0⟩ : ∃ x0, x0 = a ++ List.replicate (M + 1 - a.length) (0 : Int) := ⟨_, rfl⟩
  have g0 : ∀ m, x0.getD m 0 = a.getD m 0 := fun m => by rw [hx0]; exact getD_app a _ m
  have l0 : x0.length = M + 1 := by rw [hx0, List.length_append, List.length_replicate]; omega
  have v0 : MN.val x0 = MN.val a := by rw [hx0, MN.val_append, MN.val_replicate]; simp
  obtain ⟨x, f1, f2, f3, f4, f5⟩ := e_iAdd_1 b hb (M + 1) (by omega) (by omega) (MN.val a) b.length (K + M + 1) x0 0 (by omega) l0 (fun m => by rw [g0]; have := ra m; omega) (fun m _ => by rw [g0]; have := ra m; omega)
    (by rw [g0, List.getD_eq_getElem?_getD, List.getElem?_eq_none (by omega)]; rfl) (by rw [v0]; simp [MN.val])
  obtain ⟨y, g1, g2, g3, g4⟩ := e_iAdd_2 (M + 1) (by omega) (by omega) (MN.val a + MN.val b) M K x 0 (by omega) f2 (fun m hm => absurd hm (Nat.not_lt_zero m)) ⟨(f4 0).1, Int.le_trans (f4 0).2 (by decide)⟩ (fun m _ => f4 m) (by rw [f5]; decide) (fun _ => f5) f3
  refine ⟨y, ?_, by omega, g3, g4⟩
  unfold impl_natAdd.f impl_natAdd.g
  have e3 : wrap64 ((x.length : Int) - 1) = ((M + 1 - 1 : Nat) : Int) := by clear f3 g4 v0; unfold wrap64; omega
  rw [show ((0 : Nat) : Int) = 0 from rfl] at f1 g1
  have e4 : a ++ (List.replicate (M + 1) (0 : Int)).drop a.length = x0 := by rw [hx0, List.drop_replicate]
  rw [hM0, e1, if_pos (by clear f3 g4 v0; omega), if_pos (by clear f3 g4 v0; omega), Int.toNat_natCast, if_pos (by rw [List.length_replicate]; clear f3 g4 v0; omega), e4, hK, f1, e3, g1, e_iTrim K y (by clear f3 g4 v0; omega) (by clear f3 g4 v0; omega)]; rfl
theorem bm_pow_le {a b : Nat} (h : a ≤ b) : 2 ^ a ≤ 2 ^ b := Nat.pow_le_pow_right (by decide) h
theorem bm_len : ∀ (f x : Nat), 0 < x → x < 2 ^ f → 2 ^ Lib.bitLenAux f x ≤ 2 * x ∧ x < 2 ^ Lib.bitLenAux f x := by
  intro f
  induction f with
  | zero => intro x h0 h1; simp at h1; omega
  | succ f ih =>
    intro x h0 h1
    simp only [Lib.bitLenAux]
    rw [if_neg (by omega), Nat.add_comm, Nat.pow_succ]
    rw [Nat.pow_succ] at h1
    by_cases c : x / 2 = 0
    · have : Lib.bitLenAux f (x / 2) = 0 := by rw [c]; cases f <;> simp [Lib.bitLenAux]
      rw [this]; omega
    · have := ih (x / 2) (by omega) (by omega)
      omega
theorem bm_or (a r : Nat) (F : Nat) (ha : a * 2 ^ F < 9223372036854775808) (hr : r < 2 ^ F) (hF : F ≤ 52) : Go.bits .or .i64 ((a : Int) * ((2 ^ F : Nat) : Int)) (r : Int) = (a : Int) * ((2 ^ F : Nat) : Int) + (r : Int) := by
  have hp := bm_pow_le hF
  have := (bits_nat .i64 63 (by decide) wraps_i64_63 (a * 2 ^ F) r (by omega) (by omega)).2
  rw [Int.natCast_mul] at this
  rw [this, ← Nat.shiftLeft_eq, ← Nat.shiftLeft_add_eq_or_of_lt hr, Nat.shiftLeft_eq, Int.natCast_add, Int.natCast_mul]
theorem bm_two (m : Nat) : ((2 : Int) ^ m) = ((2 ^ m : Nat) : Int) := by rw [Int.natCast_pow]; rfl
theorem dv_alg (am V d r q t s : Int) (hs : s = r * 65536 + am) (h : s = d * q + t) : am + 65536 * (V * d + r) = (q + 65536 * V) * d + t := by grind
theorem dv_facts (d r am : Int) (hd : 1 ≤ d ∧ d ≤ 65535) (hr : 0 ≤ r ∧ r < d) (ha : 0 ≤ am ∧ am < 65536) : 0 ≤ r * 65536 + am ∧ r * 65536 + am ≤ 4294967295 ∧ 0 ≤ (r * 65536 + am) / d ∧ (r * 65536 + am) / d < 65536 ∧ 0 ≤ (r * 65536 + am) % d ∧ (r * 65536 + am) % d < d := by
  have h0 : 0 ≤ r * 65536 + am := by omega
  refine ⟨h0, by omega, Int.ediv_nonneg h0 (by omega), ?_, Int.emod_nonneg _ (by omega), Int.emod_lt_of_pos _ (by omega)⟩
  refine Int.ediv_lt_of_lt_mul (by omega) ?_
  have : 65536 * d = d * 65536 := Int.mul_comm ..
  omega
theorem dv_inv (a x : List Int) (d r : Int) (m : Nat) (hm : m < a.length) (hx : x.length = a.length) (hv : MN.val (a.drop (m + 1)) = MN.val (x.drop (m + 1)) * d + r) : MN.val (a.drop m) = MN.val ((x.set m ((r * 65536 + a.getD m 0) / d)).drop m) * d + (r * 65536 + a.getD m 0) % d := by
  have e1 : (x.set m ((r * 65536 + a.getD m 0) / d)).drop (m + 1) = x.drop (m + 1) := List.drop_set_of_lt (by omega)
  rw [drop_val a m hm, drop_val (x.set m ((r * 65536 + a.getD m 0) / d)) m (by rw [List.length_set]; omega), e1, getD_set_eq _ _ _ (by omega), hv]
  exact dv_alg _ _ _ _ _ _ _ rfl (Int.mul_ediv_add_emod _ _).symm
theorem e_sDivS_l (a : List Int) (d : Int) (ha : MN.DOk a) (la : a.length ≤ 300) (hd : 1 ≤ d ∧ d ≤ 65535) : ∀ (m k : Nat) (x : List Int) (r : Int), m ≤ a.length → x.length = a.length → MN.DOk x → 0 ≤ r ∧ r < d → MN.val (a.drop m) = MN.val (x.drop m) * d + r → 5000 + m < k → ∃ y r', spec_l5DivSmall.l0 k a d x r ((m : Int) - 1) = some (MN.trimD y, r') ∧ y.length = a.length ∧ MN.DOk y ∧ (0 ≤ r' ∧ r' < d) ∧ MN.val a = MN.val y * d + r' := by
  intro m
  induction m with
  | zero =>
    intro k x r hm hx hdx hr hv hk
    obtain ⟨k, rfl⟩ : ∃ q, k = q + 1 := ⟨k - 1, by omega⟩
    rw [spec_l5DivSmall.l0, if_neg (by omega), e_sTrim k x (by omega) (by omega), Option.bind_some]
    exact ⟨x, r, rfl, hx, hdx, hr, by simpa using hv⟩
  | succ m ih =>
    intro k x r hm hx hdx hr hv hk
    obtain ⟨k, rfl⟩ : ∃ q, k = q + 1 := ⟨k - 1, by omega⟩
    have ra := ha.getD m
    obtain ⟨b0, b1, b2, b3, b4, b5⟩ := dv_facts d r (a.getD m 0) hd hr ra
    have inv := dv_inv a x d r m (by omega) hx hv
    have i1 : (((m + 1 : Nat) : Int) - 1) = (m : Int) := by omega
    have i2 : wrap64 ((m : Int) - 1) = (m : Int) - 1 := by unfold wrap64; omega
    have w1 : wrap64 (r * 65536) = r * 65536 := by clear inv hv; unfold wrap64; omega
    have w2 : wrap64 (r * 65536 + a.getD m 0) = r * 65536 + a.getD m 0 := by clear inv hv; unfold wrap64; omega
    have w3 : Int.tdiv (r * 65536 + a.getD m 0) d = (r * 65536 + a.getD m 0) / d := Int.tdiv_eq_ediv_of_nonneg b0
    have w4 : Int.tmod (r * 65536 + a.getD m 0) d = (r * 65536 + a.getD m 0) % d := Int.tmod_eq_emod_of_nonneg b0
    have w5 : wrap64 ((r * 65536 + a.getD m 0) / d) = (r * 65536 + a.getD m 0) / d := by
      generalize (r * 65536 + a.getD m 0) / d = z at b2 b3
      clear inv hv w1 w2 w3 w4 i2; unfold wrap64; omega
    have p1 : (m : Int) < (a.length : Int) := by omega
    have p2 : (m : Int) < (x.length : Int) := by omega
    have p3 : ¬ d = 0 := by omega
    obtain ⟨y, r', f1, f2⟩ := ih k (x.set m ((r * 65536 + a.getD m 0) / d)) ((r * 65536 + a.getD m 0) % d) (by omega) (by rw [List.length_set]; exact hx) (hdx.set _ b2 b3) ⟨b4, b5⟩ inv (by omega)
    refine ⟨y, r', ?_, f2⟩
    rw [i1, spec_l5DivSmall.l0, if_pos (show (m : Int) ≥ 0 from Int.natCast_nonneg _), if_pos (Int.natCast_nonneg _), if_pos p1, if_neg p3, if_pos p2, e_rd0, w1, w2, w3, w4, w5, i2, Int.toNat_natCast]
    exact f1
theorem e_sDivS (k : Nat) (a : List Int) (d : Int) (ha : MN.DOk a) (la : a.length ≤ 300) (hd : 1 ≤ d ∧ d ≤ 65535) (hk : 6000 ≤ k) : ∃ y r', spec_l5DivSmall.f k a d = some (MN.trimD y, r') ∧ y.length = a.length ∧ MN.DOk y ∧ (0 ≤ r' ∧ r' < d) ∧ MN.val a = MN.val y * d + r' := by
  have i2 : wrap64 ((a.length : Int) - 1) = (a.length : Int) - 1 := by unfold wrap64; omega
  unfold spec_l5DivSmall.f
  rw [if_pos (Int.natCast_nonneg _), Int.toNat_natCast, if_pos (by omega), i2]
  exact e_sDivS_l a d ha la hd a.length k _ 0 (Nat.le_refl _) (List.length_replicate ..) (MN.DOk.replicate _) (by omega) (by simp [MN.val]) (by omega)
theorem i64_or16 (x y : Int) (hx : 0 ≤ x ∧ x < 65536) (hy : 0 ≤ y ∧ y < 65536) : Go.bits .or .i64 (x * 65536) y = x * 65536 + y := by
  obtain ⟨p, rfl⟩ : ∃ p : Nat, x = (p : Int) := ⟨x.toNat, by omega⟩
  obtain ⟨q, rfl⟩ : ∃ q : Nat, y = (q : Int) := ⟨y.toNat, by omega⟩
  have h := bm_or p q 16 (by omega) (by omega) (by decide)
  exact h
theorem e_iDivS_l (a b : List Int) (b0 : Int) (hb : b = [b0]) (ha : MN.DOk a) (la : a.length ≤ 300) (hd : 1 ≤ b0 ∧ b0 ≤ 65535) : ∀ (m k : Nat) (x : List Int) (r : Int), m ≤ a.length → x.length = a.length → MN.DOk x → 0 ≤ r ∧ r < b0 → MN.val (a.drop m) = MN.val (x.drop m) * b0 + r → 5000 + m < k → ∃ y r', impl_natDiv.l0 k a b x r ((m : Int) - 1) = some (MN.trimD y, MN.trimD [r']) ∧ y.length = a.length ∧ MN.DOk y ∧ (0 ≤ r' ∧ r' < b0) ∧ MN.val a = MN.val y * b0 + r' := by
  intro m
  induction m with
  | zero =>
    intro k x r hm hx hdx hr hv hk
    obtain ⟨k, rfl⟩ : ∃ q, k = q + 1 := ⟨k - 1, by omega⟩
    rw [impl_natDiv.l0, if_neg (by omega), e_iTrim k x (by omega) (by omega), Option.bind_some, e_iTrim k [r] (by simp) (by omega), Option.bind_some]
    exact ⟨x, r, rfl, hx, hdx, hr, by simpa using hv⟩
  | succ m ih =>
    intro k x r hm hx hdx hr hv hk
    obtain ⟨k, rfl⟩ : ∃ q, k = q + 1 := ⟨k - 1, by omega⟩
    have ra := ha.getD m
    obtain ⟨c0, c1, c2, c3, c4, c5⟩ := dv_facts b0 r (a.getD m 0) hd hr ra
    have inv := dv_inv a x b0 r m (by omega) hx hv
    have i1 : (((m + 1 : Nat) : Int) - 1) = (m : Int) := by omega
    have i2 : wrap64 ((m : Int) - 1) = (m : Int) - 1 := by unfold wrap64; omega
    have w1 : wrap64 (r * 65536) = r * 65536 := by clear inv hv; unfold wrap64; omega
    have w2 : Go.bits .or .i64 (r * 65536) (a.getD m 0) = r * 65536 + a.getD m 0 := i64_or16 _ _ (by omega) ra
    have w3 : Int.tdiv (r * 65536 + a.getD m 0) b0 = (r * 65536 + a.getD m 0) / b0 := Int.tdiv_eq_ediv_of_nonneg c0
    have w4 : Int.tmod (r * 65536 + a.getD m 0) b0 = (r * 65536 + a.getD m 0) % b0 := Int.tmod_eq_emod_of_nonneg c0
    have w5 : wrap64 ((r * 65536 + a.getD m 0) / b0) = (r * 65536 + a.getD m 0) / b0 := by
      generalize (r * 65536 + a.getD m 0) / b0 = z at c2 c3
      clear inv hv w1 w2 w3 w4 i2; unfold wrap64; omega
    have p1 : (m : Int) < (a.length : Int) := by omega
    have p2 : (m : Int) < (x.length : Int) := by omega
    have p3 : (0 : Int) < (b.length : Int) := by rw [hb]; simp
    have p4 : rd b 0 = b0 := by rw [hb]; rfl
    have p5 : ¬ b0 = 0 := by omega
    obtain ⟨y, r', f1, f2⟩ := ih k (x.set m ((r * 65536 + a.getD m 0) / b0)) ((r * 65536 + a.getD m 0) % b0) (by omega) (by rw [List.length_set]; exact hx) (hdx.set _ c2 c3) ⟨c4, c5⟩ inv (by omega)
    refine ⟨y, r', ?_, f2⟩
    rw [i1, impl_natDiv.l0, if_pos (show (m : Int) ≥ 0 from Int.natCast_nonneg _), if_pos (Int.natCast_nonneg _), if_pos p1, if_pos p3, p4, if_neg p5, if_pos p2, e_rd0, w1, w2, w3, w4, w5, i2, Int.toNat_natCast]
    exact f1
def sg (x y : Int) : Int := if x < y then -1 else if y < x then 1 else 0
theorem sg_step (A B P x y : Int) (hA : 0 ≤ A ∧ A < P) (hB : 0 ≤ B ∧ B < P) (h : x < y) : A + P * x < B + P * y := by
  have := Int.mul_le_mul_of_nonneg_left (show x + 1 ≤ y by omega) (show (0 : Int) ≤ P by omega)
  rw [Int.mul_add] at this; omega
theorem sg_same (A B P x : Int) : sg (A + P * x) (B + P * x) = sg A B := by
  unfold sg
  by_cases h : A < B
  · rw [if_pos h, if_pos (by omega)]
  · by_cases h' : B < A
    · rw [if_neg h, if_pos h', if_neg (by omega), if_pos (by omega)]
    · rw [if_neg h, if_neg h', if_neg (by omega), if_neg (by omega)]
theorem e_sg_l (a b : List Int) (ha : MN.DOk a) (hb : MN.DOk b) (hl : a.length = b.length) (h256 : a.length ≤ 400) : ∀ (d k : Nat), d ≤ a.length → d < k →
    spec_l5Cmp.l0 k a b ((d : Int) - 1) = some (sg (MN.val (a.take d)) (MN.val (b.take d))) ∧ impl_natCmp.l0 k a b ((d : Int) - 1) = some (sg (MN.val (a.take d)) (MN.val (b.take d))) := by
  intro d
  induction d with
  | zero =>
    intro k hd hk
    obtain ⟨k, rfl⟩ : ∃ m, k = m + 1 := ⟨k - 1, by omega⟩
    simp only [spec_l5Cmp.l0, impl_natCmp.l0]
    rw [if_neg (by omega), if_neg (by omega)]
    simp [sg]
  | succ d ih =>
    intro k hd hk
    obtain ⟨k, rfl⟩ : ∃ m, k = m + 1 := ⟨k - 1, by omega⟩
    have r1 := ha.getD d
    have r2 := hb.getD d
    have w : wrap64 ((d : Int) - 1) = (d : Int) - 1 := by unfold wrap64; omega
    have ws : wrap64 (a.getD d 0 - b.getD d 0) = a.getD d 0 - b.getD d 0 := by generalize a.getD d 0 = x at *; generalize b.getD d 0 = y at *; unfold wrap64; omega
    rw [show (((d + 1 : Nat) : Int) - 1) = (d : Int) by omega, take_val' a d, take_val' b d]
    have s1 : spec_l5Cmp.l0 (k + 1) a b (d : Int) = if a.getD d 0 < b.getD d 0 then some (-1) else if a.getD d 0 > b.getD d 0 then some 1 else spec_l5Cmp.l0 k a b ((d : Int) - 1) := by
      simp only [spec_l5Cmp.l0]
      rw [if_pos (by omega), if_pos (by omega), if_pos (by omega), if_pos (by omega), e_rd0, e_rd0, w]
    have s2 : impl_natCmp.l0 (k + 1) a b (d : Int) = if a.getD d 0 = b.getD d 0 then impl_natCmp.l0 k a b ((d : Int) - 1) else some (mx (-1) (mn 1 (a.getD d 0 - b.getD d 0))) := by
      simp only [impl_natCmp.l0]
      rw [if_pos (by omega), if_pos (by omega), if_pos (by omega), if_pos (by omega), e_rd0, e_rd0, w, ws]
    rw [s1, s2]
    have vb : MN.val (b.take d) < MN.pw d := MN.Can.lt_of_len (hb.take d) (by rw [List.length_take]; omega)
    have vb0 := MN.val_nonneg (hb.take d)
    have va : MN.val (a.take d) < MN.pw d := MN.Can.lt_of_len (ha.take d) (by rw [List.length_take]; omega)
    have va0 := MN.val_nonneg (ha.take d)
    obtain ⟨i1, i2⟩ := ih k (by omega) (by omega)
    generalize a.getD d 0 = x at *
    generalize b.getD d 0 = y at *
    rcases Int.lt_trichotomy x y with c | c | c
    · have h := sg_step _ _ _ x y ⟨va0, va⟩ ⟨vb0, vb⟩ c
      rw [if_pos c, if_neg (by omega)]
      have e : sg (MN.val (a.take d) + MN.pw d * x) (MN.val (b.take d) + MN.pw d * y) = -1 := by unfold sg; rw [if_pos h]
      rw [e]
      refine ⟨rfl, ?_⟩
      rw [Option.some.injEq]; unfold mx mn; split <;> split <;> omega
    · subst c
      rw [if_neg (by omega), if_neg (by omega), if_pos rfl, sg_same]
      exact ⟨i1, i2⟩
    · have h := sg_step _ _ _ y x ⟨vb0, vb⟩ ⟨va0, va⟩ c
      rw [if_neg (by omega), if_pos c, if_neg (by omega)]
      have e : sg (MN.val (a.take d) + MN.pw d * x) (MN.val (b.take d) + MN.pw d * y) = 1 := by unfold sg; rw [if_neg (by omega), if_pos h]
      rw [e]
      refine ⟨rfl, ?_⟩
      rw [Option.some.injEq]; unfold mx mn; split <;> split <;> omega
theorem can_len_lt {a b : List Int} (ca : MN.Can a) (cb : MN.Can b) (h : a.length < b.length) : MN.val a < MN.val b := by
  have p1 := cb.pos (by intro e; rw [e] at h; simp at h)
  have p2 := MN.val_lt ca.1
  have p3 := MN.pw_le (show a.length ≤ b.length - 1 by omega)
  omega
theorem e_sg (a b : List Int) (ca : MN.Can a) (cb : MN.Can b) (la : a.length ≤ 400) (lb : b.length ≤ 400) (k : Nat) (hk : 400 < k) : spec_l5Cmp.f k a b = some (sg (MN.val a) (MN.val b)) ∧ impl_natCmp.f k a b = some (sg (MN.val a) (MN.val b)) := by
  unfold spec_l5Cmp.f impl_natCmp.f
  have wl : wrap64 ((a.length : Int) - 1) = (a.length : Int) - 1 := by unfold wrap64; omega
  have wd : wrap64 ((a.length : Int) - (b.length : Int)) = (a.length : Int) - (b.length : Int) := by unfold wrap64; omega
  rw [wl, wd]
  by_cases h1 : (a.length : Int) < b.length
  · have h := can_len_lt ca cb (by omega)
    have e : sg (MN.val a) (MN.val b) = -1 := by unfold sg; rw [if_pos h]
    rw [if_pos h1, if_neg (by omega), e]
    refine ⟨rfl, ?_⟩
    rw [Option.some.injEq]; unfold mx mn; split <;> split <;> omega
  · by_cases h2 : (a.length : Int) > b.length
    · have h := can_len_lt cb ca (by omega)
      have e : sg (MN.val a) (MN.val b) = 1 := by unfold sg; rw [if_neg (by omega), if_pos h]
      rw [if_neg h1, if_pos h2, if_neg (by omega), e]
      refine ⟨rfl, ?_⟩
      rw [Option.some.injEq]; unfold mx mn; split <;> split <;> omega
    · rw [if_neg h1, if_neg h2, if_pos (by omega)]
      obtain ⟨e1, e2⟩ := e_sg_l a b ca.1 cb.1 (by omega) la a.length k (by omega) (by omega)
      rw [List.take_length, List.take_of_length_le (by omega)] at e1 e2
      exact ⟨e1, e2⟩
theorem e_sTop_l (a : List Int) (la : a.length ≤ 1000) : ∀ (d k i : Nat) (acc : List Int), i + d = a.length → acc.length ≤ i → d < k → spec_l5Top.l0 k a acc (i : Int) = some (acc ++ a.drop i) := by
  intro d
  induction d with
  | zero =>
    intro k i acc hi hc hk
    obtain ⟨k, rfl⟩ : ∃ q, k = q + 1 := ⟨k - 1, by omega⟩
    rw [spec_l5Top.l0, if_neg (by omega), List.drop_eq_nil_of_le (by omega), List.append_nil]
  | succ d ih =>
    intro k i acc hi hc hk
    obtain ⟨k, rfl⟩ : ∃ q, k = q + 1 := ⟨k - 1, by omega⟩
    have hlt : i < a.length := by omega
    have w : wrap64 ((i : Int) + 1) = ((i + 1 : Nat) : Int) := by unfold wrap64; omega
    rw [spec_l5Top.l0, if_pos (by omega), if_pos (by omega), if_pos (by omega), e_rd a i hlt, w, ih k (i + 1) (acc ++ [a[i]]) (by omega) (by simp; omega) (by omega), List.drop_eq_getElem_cons hlt, List.append_assoc]
    rfl
theorem e_sTop (k : Nat) (a : List Int) (m : Nat) (la : a.length ≤ 1000) (hm : m ≤ a.length) (hk : 1000 < k) : spec_l5Top.f k a (m : Int) = some (a.drop m) := by
  unfold spec_l5Top.f
  rw [e_sTop_l a la (a.length - m) k m [] (by omega) (by simp) (by omega), List.nil_append]
theorem e_sShl_l (a : List Int) (la : a.length ≤ 1000) : ∀ (d k i : Nat) (acc : List Int), i + d = a.length → acc.length ≤ i + 1 → d < k → spec_l5Shl.l0 k a acc (i : Int) = some (acc ++ a.drop i) := by
  intro d
  induction d with
  | zero =>
    intro k i acc hi hc hk
    obtain ⟨k, rfl⟩ : ∃ q, k = q + 1 := ⟨k - 1, by omega⟩
    rw [spec_l5Shl.l0, if_neg (by omega), List.drop_eq_nil_of_le (by omega), List.append_nil]
  | succ d ih =>
    intro k i acc hi hc hk
    obtain ⟨k, rfl⟩ : ∃ q, k = q + 1 := ⟨k - 1, by omega⟩
    have hlt : i < a.length := by omega
    have w : wrap64 ((i : Int) + 1) = ((i + 1 : Nat) : Int) := by unfold wrap64; omega
    rw [spec_l5Shl.l0, if_pos (by omega), if_pos (by omega), if_pos (by omega), e_rd a i hlt, w, ih k (i + 1) (acc ++ [a[i]]) (by omega) (by simp; omega) (by omega), List.drop_eq_getElem_cons hlt, List.append_assoc]
    rfl
/-- One digit of nought below. -/
def shl1 (a : List Int) : List Int := if a = [] then [] else 0 :: a
theorem e_sShl (k : Nat) (a : List Int) (la : a.length ≤ 1000) (hk : 1000 < k) : spec_l5Shl.f k a 1 = some (shl1 a) := by
  unfold spec_l5Shl.f shl1
  cases a with
  | nil => rfl
  | cons x a =>
    rw [if_neg (by simp only [List.length_cons]; omega), if_pos (by decide), if_pos (by decide), if_neg (by simp)]
    exact e_sShl_l (x :: a) la (x :: a).length k 0 (List.replicate (1 : Int).toNat 0) (by omega) (by decide) (by omega)
theorem shl1_val (a : List Int) : MN.val (shl1 a) = 65536 * MN.val a := by
  unfold shl1
  cases a with
  | nil => rfl
  | cons x a => rw [if_neg (by simp)]; simp [MN.val]
theorem shl1_can {a : List Int} (h : MN.Can a) : MN.Can (shl1 a) := by
  unfold shl1
  cases a with
  | nil => exact MN.Can.nil
  | cons x a =>
    rw [if_neg (by simp)]
    refine ⟨MN.DOk.cons (by decide) (by decide) h.1, ?_⟩
    rw [MN.getLast?_cons_ne (by simp)]
    exact h.2
theorem shl1_len (a : List Int) : (shl1 a).length ≤ a.length + 1 := by
  unfold shl1; split <;> simp
theorem e_sTimes (k : Nat) (a : List Int) (d : Int) (ca : MN.Can a) (la : a.length ≤ 300) (hd : 0 ≤ d ∧ d < 65536) (hk : 300000 ≤ k) : ∃ y, spec_l5Times.f k a d = some y ∧ MN.Can y ∧ MN.val y = MN.val a * d ∧ y.length ≤ 1300 := by
  unfold spec_l5Times.f
  by_cases h : d = 0
  · rw [if_pos h, h]; exact ⟨[], rfl, MN.Can.nil, by simp [MN.val], by simp⟩
  · rw [if_neg h]
    obtain ⟨y, h1, h2, h3, h4⟩ := e_sMul k a [d] ca.1 (MN.DOk.cons hd.1 hd.2 MN.DOk.nil) (by omega) (by simp) hk
    refine ⟨MN.trimD y, by first | exact h1 | (rw [h1]; rfl), MN.Can.trimD h3, ?_, Nat.le_trans (MN.trimD_length y) h2⟩
    rw [MN.val_trimD, h4]; simp [MN.val]
/-- The guess by the highest digits is never too low. -/
theorem guess_hi (R Y P rt yt q : Int) (hP : 0 < P) (hy : 0 < yt) (hY : yt * P ≤ Y) (hR : R < (rt + 1) * P) (hq0 : 0 ≤ q) (hq : q * Y ≤ R) : q ≤ rt / yt := by
  have h1 : q * (yt * P) ≤ q * Y := Int.mul_le_mul_of_nonneg_left hY hq0
  have h2 : (q * yt) * P < (rt + 1) * P := by rw [Int.mul_assoc]; omega
  have h3 : q * yt < rt + 1 := Int.lt_of_mul_lt_mul_right h2 (by omega)
  exact (Int.le_ediv_iff_mul_le hy).mpr (by omega)
theorem can_len_le {a b : List Int} (ca : MN.Can a) (cb : MN.Can b) (h : MN.val b ≤ MN.val a) : b.length ≤ a.length :=
  Nat.le_of_not_lt fun hl => by have := can_len_lt ca cb hl; omega
theorem l1_mul (Y q g : Int) : Y * (q + (g + 1)) - Y = Y * (q + g) := by grind
theorem e_sL1 (up : Int) (x Yl : List Int) (n : Int) (qs rest : List Int) (i : Nat) (cY : MN.Can Yl) (lY : Yl.length ≤ 200) (cr : MN.Can rest) (lr : rest.length ≤ 250) (q : Int) (hY : 0 < MN.val Yl) (hq0 : 0 ≤ q) (hq1 : q * MN.val Yl ≤ MN.val rest) (hq2 : MN.val rest < (q + 1) * MN.val Yl) (hi : i < qs.length) : ∀ (g k : Nat) (p : List Int), MN.Can p → p.length ≤ 250 → MN.val p = MN.val Yl * (q + (g : Int)) → q + (g : Int) ≤ 70000 → g + 10000 ≤ k →
    ∃ r', MN.Can r' ∧ MN.val r' = MN.val rest - q * MN.val Yl ∧ spec_l5Div.l1 k up x Yl n qs rest (i : Int) (q + (g : Int)) p = spec_l5Div.l0 (k - g - 1) up x Yl n (qs.set i q) r' (wrap64 ((i : Int) - 1)) := by
  intro g
  induction g with
  | zero =>
    intro k p cp lp hp hb hk
    obtain ⟨k, rfl⟩ : ∃ z, k = z + 1 := ⟨k - 1, by omega⟩
    have hp' : MN.val p = q * MN.val Yl := by rw [hp, Int.mul_comm]; simp
    have hle : MN.val p ≤ MN.val rest := by omega
    obtain ⟨y, h1, h2, h3, h4⟩ := e_sSub k rest p cr.1 cp.1 (by omega) (can_len_le cr cp hle) hle (by omega)
    refine ⟨MN.trimD y, MN.Can.trimD h3, by rw [MN.val_trimD, h4, hp'], ?_⟩
    have e0 : ¬ sg (MN.val p) (MN.val rest) > 0 := by unfold sg; split <;> (try split) <;> omega
    rw [spec_l5Div.l1, (e_sg p rest cp cr (by omega) (by omega) k (by omega)).1, Option.bind_some, if_neg e0, if_pos (Int.natCast_nonneg _), if_pos (by omega), h1, Option.bind_some, Int.toNat_natCast]
    simp
  | succ g ih =>
    intro k p cp lp hp hb hk
    obtain ⟨k, rfl⟩ : ∃ z, k = z + 1 := ⟨k - 1, by omega⟩
    have hge : (q + 1) * MN.val Yl ≤ MN.val p := by
      rw [hp, Int.mul_comm]
      exact Int.mul_le_mul_of_nonneg_left (by omega) (by omega)
    have hlt : MN.val rest < MN.val p := by omega
    have hYp : MN.val Yl ≤ MN.val p := by
      rw [hp]
      have := Int.mul_le_mul_of_nonneg_left (show (1 : Int) ≤ q + ((g + 1 : Nat) : Int) by omega) (show 0 ≤ MN.val Yl by omega)
      omega
    obtain ⟨y, h1, h2, h3, h4⟩ := e_sSub k p Yl cp.1 cY.1 (by omega) (can_len_le cp cY hYp) hYp (by omega)
    have e0 : sg (MN.val p) (MN.val rest) > 0 := by unfold sg; rw [if_neg (by omega), if_pos hlt]; decide
    have w : wrap64 ((q + ((g + 1 : Nat) : Int)) - 1) = q + (g : Int) := by unfold wrap64; omega
    have hv : MN.val (MN.trimD y) = MN.val Yl * (q + (g : Int)) := by
      rw [MN.val_trimD, h4, hp]
      have := l1_mul (MN.val Yl) q (g : Int)
      rw [show ((g + 1 : Nat) : Int) = (g : Int) + 1 by omega]
      exact this
    have ct : MN.Can (MN.trimD y) := MN.Can.trimD h3
    obtain ⟨r', f1, f2, f3⟩ := ih k (MN.trimD y) ct (Nat.le_trans (can_len_le cp ct (by rw [MN.val_trimD, h4]; omega)) lp) hv (by omega) (by omega)
    refine ⟨r', f1, f2, ?_⟩
    rw [spec_l5Div.l1, (e_sg p rest cp cr (by omega) (by omega) k (by omega)).1, Option.bind_some, if_pos e0, h1, Option.bind_some, w, f3, show k + 1 - (g + 1) - 1 = k - g - 1 by omega]
theorem top_lt (A P r1 r2 R : Int) (hA : A < P) (hR : R = A + P * r1 + 65536 * P * r2) : R < (r2 * 65536 + r1 + 1) * P := by
  have : (r2 * 65536 + r1 + 1) * P = P + P * r1 + 65536 * P * r2 := by grind
  omega
theorem two_top (rl : List Int) (n : Nat) (hn : 1 ≤ n) (cr : MN.DOk rl) (hl : rl.length ≤ n + 1) : MN.val rl < (rl.getD n 0 * 65536 + rl.getD (n - 1) 0 + 1) * MN.pw (n - 1) := by
  have e1 := take_val' rl n
  rw [List.take_of_length_le hl] at e1
  obtain ⟨m, rfl⟩ : ∃ m, n = m + 1 := ⟨n - 1, by omega⟩
  have e2 := take_val' rl m
  have vt : MN.val (rl.take m) < MN.pw m := MN.Can.lt_of_len (cr.take m) (by rw [List.length_take]; omega)
  rw [Nat.add_sub_cancel]
  refine top_lt _ _ _ _ _ vt ?_
  rw [e1, e2, MN.pw_succ]
theorem one_top (yl : List Int) (n : Nat) (hn : 1 ≤ n) (cy : MN.DOk yl) (hl : yl.length = n) : yl.getD (n - 1) 0 * MN.pw (n - 1) ≤ MN.val yl := by
  obtain ⟨m, rfl⟩ : ∃ m, n = m + 1 := ⟨n - 1, by omega⟩
  have e1 := take_val' yl m
  rw [List.take_of_length_le (by omega)] at e1
  have vt := MN.val_nonneg (cy.take m)
  rw [Nat.add_sub_cancel, e1, Int.mul_comm]
  omega
theorem top_pos {yl : List Int} {n : Nat} (hn : 1 ≤ n) (cy : MN.Can yl) (hl : yl.length = n) : 1 ≤ yl.getD (n - 1) 0 := by
  have h := cy.1.getD (n - 1)
  have h2 : yl.getLast? ≠ some 0 := cy.2
  have h3 : yl.getLast? = some (yl.getD (n - 1) 0) := by
    rw [List.getLast?_eq_getElem?, hl, List.getD_eq_getElem?_getD, List.getElem?_eq_getElem (by omega)]
    rfl
  rw [h3] at h2
  have : yl.getD (n - 1) 0 ≠ 0 := fun e => h2 (by rw [e])
  omega
theorem e_sL0s (k : Nat) (up : Int) (x Yl qs rest : List Int) (i n : Nat) (hn : Yl.length = n) (hn2 : 2 ≤ n ∧ n ≤ 200) (cY : MN.Can Yl) (dx : MN.DOk x) (cr : MN.Can rest) (hr : MN.val rest < MN.val Yl) (hi : i < x.length) (lx : x.length ≤ 1000) (hq : i < qs.length) (hk : 500000 ≤ k) :
    ∃ q r', (0 ≤ q ∧ q < 65536) ∧ MN.Can r' ∧ MN.val r' < MN.val Yl ∧ 65536 * MN.val rest + x.getD i 0 = q * MN.val Yl + MN.val r' ∧ ∃ k', k ≤ k' + 70000 ∧ spec_l5Div.l0 k up x Yl (n : Int) qs rest (i : Int) = spec_l5Div.l0 k' up x Yl (n : Int) (qs.set i q) r' (wrap64 ((i : Int) - 1)) := by
  obtain ⟨k, rfl⟩ : ∃ z, k = z + 2 := ⟨k - 2, by omega⟩
  have dxi := dx.getD i
  have Y0 : 0 < MN.val Yl := by have := MN.val_nonneg cr.1; omega
  have r0 := MN.val_nonneg cr.1
  have lr : rest.length ≤ n := by rw [← hn]; exact can_len_le cY cr (by omega)
  obtain ⟨v1, n1, n2, n3, n4⟩ := e_sNatOf (k + 1) (x.getD i 0) (by omega) dxi.1 (by omega)
  have cs := shl1_can cr
  have ls := shl1_len rest
  obtain ⟨rl, a1, a2, a3, a4⟩ := e_sAdd (k + 1) (shl1 rest) v1 cs n3 (by omega) (by omega) (by omega)
  rw [shl1_val, n4] at a4
  have hRY : MN.val rl < 65536 * MN.val Yl := by omega
  have lrl : rl.length ≤ n + 1 := by
    refine a3.len_le ?_
    have := MN.val_lt cY.1
    rw [hn] at this
    rw [MN.pw_succ]; omega
  have yt := top_pos (by omega) cY hn
  have ytb := cY.1.getD (n - 1)
  have P0 := MN.pw_pos (n - 1)
  have t1 := two_top rl n (by omega) a3.1 lrl
  have t2 := one_top Yl n (by omega) cY.1 hn
  have q0 : 0 ≤ MN.val rl / MN.val Yl := Int.ediv_nonneg (MN.val_nonneg a3.1) (by omega)
  have qlt : MN.val rl / MN.val Yl < 65536 := Int.ediv_lt_of_lt_mul Y0 hRY
  have qm := Int.mul_ediv_add_emod (MN.val rl) (MN.val Yl)
  have m0 := Int.emod_nonneg (MN.val rl) (show MN.val Yl ≠ 0 by omega)
  have m1 := Int.emod_lt_of_pos (MN.val rl) Y0
  have qm' : MN.val rl / MN.val Yl * MN.val Yl = MN.val Yl * (MN.val rl / MN.val Yl) := Int.mul_comm ..
  have gh := guess_hi (MN.val rl) (MN.val Yl) (MN.pw (n - 1)) (rl.getD n 0 * 65536 + rl.getD (n - 1) 0) (Yl.getD (n - 1) 0) (MN.val rl / MN.val Yl) P0 (by omega) t2 t1 q0 (by omega)
  have d1 := a3.1.getD n
  have d2 := a3.1.getD (n - 1)
  have G0 : 0 ≤ (rl.getD n 0 * 65536 + rl.getD (n - 1) 0) / Yl.getD (n - 1) 0 := Int.ediv_nonneg (by omega) (by omega)
  have G1 : (rl.getD n 0 * 65536 + rl.getD (n - 1) 0) / Yl.getD (n - 1) 0 ≤ 4294967295 := by
    refine Int.le_trans (Int.ediv_le_self _ (by omega)) (by omega)
  have wn : wrap64 ((n : Int) - 1) = ((n - 1 : Nat) : Int) := by clear qm qm' gh t1 t2 a4 hRY; unfold wrap64; omega
  have w1 : wrap64 (wrap64 (rl.getD n 0 * 65536) + rl.getD (n - 1) 0) = rl.getD n 0 * 65536 + rl.getD (n - 1) 0 := by
    generalize rl.getD n 0 = z1 at d1
    generalize rl.getD (n - 1) 0 = z2 at d2
    clear qm qm' gh t1 t2 a4 hRY G0 G1; unfold wrap64; omega
  have w2 : Int.tdiv (rl.getD n 0 * 65536 + rl.getD (n - 1) 0) (Yl.getD (n - 1) 0) = (rl.getD n 0 * 65536 + rl.getD (n - 1) 0) / Yl.getD (n - 1) 0 := Int.tdiv_eq_ediv_of_nonneg (by omega)
  generalize hG : (rl.getD n 0 * 65536 + rl.getD (n - 1) 0) / Yl.getD (n - 1) 0 = G at *
  have w3 : wrap64 G = G := by clear qm qm' gh t1 t2 a4 hRY; unfold wrap64; omega
  have wx : IntKind.u64.wrap (x.getD i 0) = x.getD i 0 := by
    rw [u64w]; generalize x.getD i 0 = z at dxi; clear qm qm' gh t1 t2 a4 hRY; omega
  -- the guess, and the rest of the walk
  have main : ∀ ge : Int, MN.val rl / MN.val Yl ≤ ge → ge ≤ 65535 → ∃ r', MN.Can r' ∧ MN.val r' = MN.val rl - (MN.val rl / MN.val Yl) * MN.val Yl ∧ ∃ k', k + 2 ≤ k' + 70000 ∧ spec_l5Div.j1 (k + 1) up x Yl (n : Int) qs rl (i : Int) ge = spec_l5Div.l0 k' up x Yl (n : Int) (qs.set i (MN.val rl / MN.val Yl)) r' (wrap64 ((i : Int) - 1)) := fun ge g1 g2 => by
    obtain ⟨p, p1, p2, p3, p4⟩ := e_sTimes k Yl ge cY (by omega) (by omega) (by omega)
    have lp : p.length ≤ n + 1 := by
      refine p2.len_le ?_
      have h1 := MN.val_lt cY.1
      rw [hn] at h1
      rw [MN.pw_succ, p3]
      have h2 := Int.mul_le_mul_of_nonneg_left (show ge ≤ 65536 by omega) (show 0 ≤ MN.val Yl by omega)
      omega
    obtain ⟨g, hg⟩ : ∃ g : Nat, ge = MN.val rl / MN.val Yl + (g : Int) := ⟨(ge - MN.val rl / MN.val Yl).toNat, by omega⟩
    have hlt2 : MN.val rl < (MN.val rl / MN.val Yl + 1) * MN.val Yl := by rw [Int.add_mul, Int.one_mul]; omega
    obtain ⟨r', f1, f2, f3⟩ := e_sL1 up x Yl (n : Int) qs rl i cY (by omega) a3 (by omega) (MN.val rl / MN.val Yl) Y0 q0 (by omega) hlt2 hq g k p p2 (by omega) (by rw [p3, hg]) (by omega) (by omega)
    refine ⟨r', f1, f2, k - g - 1, by omega, ?_⟩
    rw [spec_l5Div.j1, p1, Option.bind_some, hg, f3]
  have fin : ∀ ge : Int, MN.val rl / MN.val Yl ≤ ge → ge ≤ 65535 → spec_l5Div.l0 (k + 2) up x Yl (n : Int) qs rest (i : Int) = spec_l5Div.j1 (k + 1) up x Yl (n : Int) qs rl (i : Int) ge → ∃ q r', (0 ≤ q ∧ q < 65536) ∧ MN.Can r' ∧ MN.val r' < MN.val Yl ∧ 65536 * MN.val rest + x.getD i 0 = q * MN.val Yl + MN.val r' ∧ ∃ k', k + 2 ≤ k' + 70000 ∧ spec_l5Div.l0 (k + 2) up x Yl (n : Int) qs rest (i : Int) = spec_l5Div.l0 k' up x Yl (n : Int) (qs.set i q) r' (wrap64 ((i : Int) - 1)) := fun ge g1 g2 he => by
    obtain ⟨r', f1, f2, k', f3, f4⟩ := main ge g1 g2
    exact ⟨MN.val rl / MN.val Yl, r', ⟨q0, qlt⟩, f1, by omega, by omega, k', f3, he.trans f4⟩
  have unf : spec_l5Div.l0 (k + 2) up x Yl (n : Int) qs rest (i : Int) = if G ≥ 65536 then spec_l5Div.j1 (k + 1) up x Yl (n : Int) qs rl (i : Int) 65535 else spec_l5Div.j1 (k + 1) up x Yl (n : Int) qs rl (i : Int) G := by
    have c1 : (i : Int) < (x.length : Int) := by clear qm qm' gh t1 t2 a4 hRY; omega
    have c2 : ((n - 1 : Nat) : Int) < (Yl.length : Int) := by rw [hn]; clear qm qm' gh t1 t2 a4 hRY; omega
    have c3 : ¬ Yl.getD (n - 1) 0 = 0 := by clear qm qm' gh t1 t2 a4 hRY; omega
    rw [show k + 2 = (k + 1) + 1 from rfl, spec_l5Div.l0, if_pos (show (i : Int) ≥ 0 from Int.natCast_nonneg _), e_sShl (k + 1) rest (by omega) (by omega), Option.bind_some, if_pos (Int.natCast_nonneg _), if_pos c1, e_rd0, wx, n1, Option.bind_some, a1, Option.bind_some, e_sTrim (k + 1) rl (by omega) (by omega), Option.bind_some, MN.trimD_can a3, at_eat, Option.bind_some, wn, at_eat, Option.bind_some, if_pos (Int.natCast_nonneg _), if_pos c2, e_rd0, if_neg c3, w1, w2, w3]
  by_cases cG : G ≥ 65536
  · exact fin 65535 (by omega) (by omega) (by rw [unf, if_pos cG])
  · exact fin G gh (by omega) (by rw [unf, if_neg cG])
theorem l0_alg (am V Y R q t : Int) (h : 65536 * R + am = q * Y + t) : am + 65536 * (V * Y + R) = (q + 65536 * V) * Y + t := by grind
theorem l0_inv (x qs : List Int) (Y R q t : Int) (m : Nat) (hm : m < x.length) (hx : m < qs.length) (hv : MN.val (x.drop (m + 1)) = MN.val (qs.drop (m + 1)) * Y + R) (h : 65536 * R + x.getD m 0 = q * Y + t) : MN.val (x.drop m) = MN.val ((qs.set m q).drop m) * Y + t := by
  have e1 : (qs.set m q).drop (m + 1) = qs.drop (m + 1) := List.drop_set_of_lt (by omega)
  rw [drop_val x m hm, drop_val (qs.set m q) m (by rw [List.length_set]; omega), e1, getD_set_eq _ _ _ (by omega), hv]
  exact l0_alg _ _ _ _ _ _ h
theorem e_sL0 (up : Int) (x Yl : List Int) (n : Nat) (hn : Yl.length = n) (hn2 : 2 ≤ n ∧ n ≤ 200) (cY : MN.Can Yl) (dx : MN.DOk x) (lx : x.length ≤ 1000) (hup : 1 ≤ up ∧ up ≤ 65535) : ∀ (m k : Nat) (qs rest : List Int), m ≤ x.length → m ≤ qs.length → qs.length ≤ 2000 → MN.DOk qs → MN.Can rest → MN.val rest < MN.val Yl → MN.val (x.drop m) = MN.val (qs.drop m) * MN.val Yl + MN.val rest → 510000 + m * 80000 ≤ k →
    ∃ qs' y r, MN.DOk qs' ∧ MN.DOk y ∧ 0 ≤ r ∧ r < up ∧ MN.val x = MN.val qs' * MN.val Yl + (MN.val y * up + r) ∧ MN.val y * up + r < MN.val Yl ∧ spec_l5Div.l0 k up x Yl (n : Int) qs rest ((m : Int) - 1) = some (MN.trimD qs', MN.trimD y) := by
  intro m
  induction m with
  | zero =>
    intro k qs rest h1 h2 h3 h4 cr hr hv hk
    obtain ⟨k, rfl⟩ : ∃ z, k = z + 1 := ⟨k - 1, by omega⟩
    have lr : rest.length ≤ n := by rw [← hn]; exact can_len_le cY cr (by omega)
    obtain ⟨y, r', f1, f2, f3, f4, f5⟩ := e_sDivS k rest up cr.1 (by omega) hup (by omega)
    refine ⟨qs, y, r', h4, f3, f4.1, f4.2, ?_, by omega, ?_⟩
    · rw [← f5]; simpa using hv
    · rw [spec_l5Div.l0, if_neg (by omega), f1, Option.bind_some, e_sTrim k qs h3 (by omega), Option.bind_some]
  | succ m ih =>
    intro k qs rest h1 h2 h3 h4 cr hr hv hk
    have hk2 : 580000 + m * 80000 ≤ k := by rw [Nat.succ_mul] at hk; clear hv hr; omega
    obtain ⟨q, r', g1, g2, g3, g4, k', g5, g6⟩ := e_sL0s k up x Yl qs rest m n hn hn2 cY dx cr hr (by clear hv hr hk hk2; omega) lx (by clear hv hr hk hk2; omega) (by clear hv hr hk; omega)
    have i1 : (((m + 1 : Nat) : Int) - 1) = (m : Int) := by omega
    have i2 : wrap64 ((m : Int) - 1) = (m : Int) - 1 := by clear hv g4 hr g3; unfold wrap64; omega
    have inv := l0_inv x qs _ _ q _ m (by omega) (by omega) hv g4
    obtain ⟨qs', y, r, a1, a2, a3, a4, a5, a6, a7⟩ := ih k' (qs.set m q) r' (by omega) (by rw [List.length_set]; omega) (by rw [List.length_set]; exact h3) (h4.set _ g1.1 g1.2) g2 g3 inv (by clear hv g4 hr g3 inv hk; omega)
    exact ⟨qs', y, r, a1, a2, a3, a4, a5, a6, by rw [i1, g6, i2]; exact a7⟩
theorem can_drop {a : List Int} (h : MN.Can a) : ∀ m, MN.Can (a.drop m) := by
  intro m
  refine ⟨h.1.drop m, ?_⟩
  rw [List.getLast?_drop]
  split
  · simp
  · exact h.2
theorem up_facts (t : Int) (h : 1 ≤ t ∧ t < 65536) : (65536 : Int) / (t + 1) ≥ 1 ∧ (65536 : Int) / (t + 1) ≤ 32768 := by
  refine ⟨?_, ?_⟩
  · exact Int.le_ediv_of_mul_le (by omega) (by omega)
  · exact Int.ediv_le_of_le_mul (by omega) (by omega)
theorem mul_len1 {a x : List Int} (ca : MN.Can a) (cx : MN.Can x) (d : Int) (hd : 0 ≤ d ∧ d < 65536) (h : MN.val x = MN.val a * d) : x.length ≤ a.length + 1 := by
  refine cx.len_le ?_
  have h1 := MN.val_lt ca.1
  have h2 := Int.mul_le_mul_of_nonneg_left (show d ≤ 65536 by omega) (MN.val_nonneg ca.1)
  rw [MN.pw_succ, h]
  omega
theorem sd_alg (A B up Q V r : Int) (hu : 1 ≤ up) (hr : 0 ≤ r ∧ r < up) (h : A * up = Q * (B * up) + (V * up + r)) : A = Q * B + V := by
  have h1 : r = (A - Q * B - V) * up := by grind
  have hz : A - Q * B - V = 0 := by
    generalize A - Q * B - V = z at h1
    rcases Int.lt_trichotomy z 0 with c | c | c
    · have := Int.mul_le_mul_of_nonneg_right (show z ≤ -1 by omega) (show 0 ≤ up by omega)
      omega
    · exact c
    · have := Int.mul_le_mul_of_nonneg_right (show 1 ≤ z by omega) (show 0 ≤ up by omega)
      omega
  omega
theorem e_sDiv (k : Nat) (a b : List Int) (ca : MN.Can a) (cb : MN.Can b) (la : a.length ≤ 150) (lb : b.length ≤ 150) (hb : 0 < MN.val b) (hk : 100000000 ≤ k) : ∃ q r, MN.Can q ∧ MN.Can r ∧ MN.val a = MN.val q * MN.val b + MN.val r ∧ MN.val r < MN.val b ∧ spec_l5Div.f k a b = some (q, r) := by
  have a0 := MN.val_nonneg ca.1
  have bne : 1 ≤ b.length := by
    rcases b with _ | ⟨x, y⟩
    · simp [MN.val] at hb
    · simp
  unfold spec_l5Div.f
  rw [(e_sg a b ca cb (by omega) (by omega) k (by omega)).1, Option.bind_some]
  by_cases c0 : MN.val a < MN.val b
  · refine ⟨[], a, MN.Can.nil, ca, by simp [MN.val], c0, ?_⟩
    rw [if_pos (show sg (MN.val a) (MN.val b) < 0 by unfold sg; rw [if_pos c0]; decide), e_sTrim k a (by omega) (by omega), Option.bind_some, MN.trimD_can ca]
  · rw [if_neg (show ¬ sg (MN.val a) (MN.val b) < 0 by unfold sg; rw [if_neg c0]; split <;> decide)]
    by_cases c1 : b.length = 1
    · obtain ⟨b0, rfl⟩ : ∃ b0, b = [b0] := List.length_eq_one_iff.mp c1
      have hd := cb.1.head
      have vb : MN.val [b0] = b0 := by simp [MN.val]
      rw [vb] at hb
      obtain ⟨y, r', f1, f2, f3, f4, f5⟩ := e_sDivS k a b0 ca.1 (by omega) (by omega) (by omega)
      obtain ⟨v, n1, n2, n3, n4⟩ := e_sNatOf k r' (by omega) f4.1 (by omega)
      refine ⟨MN.trimD y, v, MN.Can.trimD f3, n3, by rw [MN.val_trimD, vb, n4]; exact f5, by rw [vb, n4]; omega, ?_⟩
      have wx : IntKind.u64.wrap r' = r' := by rw [u64w]; clear f5; omega
      rw [if_pos (by simp), if_pos (by simp), show rd [b0] 0 = b0 from rfl, f1, Option.bind_some, wx, n1, Option.bind_some]
    · obtain ⟨n, hn⟩ : ∃ n, b.length = n + 1 := ⟨b.length - 1, by omega⟩
      have tp := top_pos (by omega) cb hn
      have tb := cb.1.getD (n + 1 - 1)
      have w0 : wrap64 ((b.length : Int) - 1) = ((n + 1 - 1 : Nat) : Int) := by rw [hn]; unfold wrap64; omega
      obtain ⟨t, ht⟩ : ∃ t, t = b.getD (n + 1 - 1) 0 := ⟨_, rfl⟩
      rw [← ht] at tp tb
      obtain ⟨u1, u2⟩ := up_facts t (by omega)
      obtain ⟨up, hup⟩ : ∃ up, up = (65536 : Int) / (t + 1) := ⟨_, rfl⟩
      rw [← hup] at u1 u2
      have w1 : wrap64 (t + 1) = t + 1 := by clear hup; unfold wrap64; omega
      have w2 : wrap64 up = up := by clear hup; unfold wrap64; omega
      obtain ⟨x, x1, x2, x3, x4⟩ := e_sTimes k a up ca (by omega) (by omega) (by omega)
      obtain ⟨Yl, y1, y2, y3, y4⟩ := e_sTimes k b up cb (by omega) (by omega) (by omega)
      have lx := mul_len1 ca x2 up (by omega) x3
      have ly := mul_len1 cb y2 up (by omega) y3
      have bY : MN.val b ≤ MN.val Yl := by
        rw [y3]
        have := Int.mul_le_mul_of_nonneg_left u1 (show 0 ≤ MN.val b by omega)
        omega
      have lbY := can_len_le y2 cb bY
      have Yx : MN.val Yl ≤ MN.val x := by
        rw [y3, x3]
        exact Int.mul_le_mul_of_nonneg_right (by omega) (by omega)
      have lxY := can_len_le x2 y2 Yx
      obtain ⟨m, hm⟩ : ∃ m, m + Yl.length = x.length := ⟨x.length - Yl.length, by omega⟩
      have w3 : wrap64 ((x.length : Int) - (Yl.length : Int)) = (m : Int) := by clear x3 y3 x4 y4 Yx bY hb a0 hup; unfold wrap64; omega
      have w4 : wrap64 ((m : Int) + 1) = ((m + 1 : Nat) : Int) := by clear x3 y3 x4 y4 Yx bY hb a0 hup; unfold wrap64; omega
      have ct := can_drop x2 (m + 1)
      have hlt : MN.val (x.drop (m + 1)) < MN.val Yl := can_len_lt ct y2 (by rw [List.length_drop]; omega)
      have i1 : m + 1 ≤ x.length := by clear x3 y3 x4 y4 Yx bY hb a0 hup hlt c0 w3 w4 w2 w1 w0; omega
      have i2 : 2 ≤ Yl.length ∧ Yl.length ≤ 200 := by clear x3 y3 x4 y4 Yx bY hb a0 hup hlt c0 w3 w4 w2 w1 w0; omega
      have i3 : x.length ≤ 1000 := by clear x3 y3 x4 y4 Yx bY hb a0 hup hlt c0 w3 w4 w2 w1 w0; omega
      have i4 : 510000 + (m + 1) * 80000 ≤ k := by clear x3 y3 x4 y4 Yx bY hb a0 hup hlt c0 w3 w4 w2 w1 w0; omega
      have i5 : m + 1 ≤ 1000 := by clear x3 y3 x4 y4 Yx bY hb a0 hup hlt c0 w3 w4 w2 w1 w0; omega
      have i6 : 1 ≤ up ∧ up ≤ 65535 := by clear x3 y3 x4 y4 Yx bY hb a0 hup hlt c0 w3 w4 w2 w1 w0; omega
      have i7 : 1000 < k := by clear x3 y3 x4 y4 Yx bY hb a0 hup hlt c0 w3 w4 w2 w1 w0; omega
      have i8 : m + 1 ≤ 35184372088832 := Nat.le_trans i5 (by decide)
      obtain ⟨qs', y, r, q1, q2, q3, q4, q5, q6, q7⟩ := e_sL0 up x Yl Yl.length rfl i2 y2 x2.1 i3 i6 (m + 1) k (List.replicate (m + 1) 0) (x.drop (m + 1)) i1 (by rw [List.length_replicate]; exact Nat.le_refl _) (by rw [List.length_replicate]; exact Nat.le_trans i5 (by decide)) (MN.DOk.replicate _) ct hlt (by simp [MN.val]) i4
      rw [x3, y3] at q5
      rw [y3] at q6
      have fin := sd_alg _ _ _ _ _ _ u1 ⟨q3, q4⟩ q5
      refine ⟨MN.trimD qs', MN.trimD y, MN.Can.trimD q1, MN.Can.trimD q2, by rw [MN.val_trimD, MN.val_trimD]; exact fin, ?_, ?_⟩
      · rw [MN.val_trimD]
        refine Int.lt_of_mul_lt_mul_right (a := up) ?_ (Int.le_trans (by decide) u1)
        exact Int.lt_of_le_of_lt (Int.le_add_of_nonneg_right q3) q6
      · have g1 : ¬ ((b.length : Int) = 1) := fun h => c1 (Int.ofNat.inj h)
        have g2 : ((n + 1 - 1 : Nat) : Int) < (b.length : Int) := by rw [hn]; exact Int.ofNat_lt.mpr (Nat.lt_succ_self n)
        have g3 : ¬ t + 1 = 0 := by clear q5 q6 q7 fin hup hlt w3 w4 w0 w1 w2 x3 y3 Yx bY c0; omega
        rw [show (((m + 1 : Nat) : Int) - 1) = (m : Int) by rw [Int.natCast_succ]; exact Int.add_sub_cancel ..] at q7
        rw [if_neg g1, w0, if_pos (Int.natCast_nonneg _), if_pos g2, e_rd0, ← ht, w1, if_neg g3, ← hup, w2, x1, Option.bind_some, y1, Option.bind_some, w3, w4, if_pos (Int.natCast_nonneg _), Int.toNat_natCast, if_pos i8, e_sTop k x (m + 1) i3 i1 i7, Option.bind_some]
        exact q7
theorem kn_or (x t : Nat) (F : Nat) (hx : x < 2 ^ F) (ht : t * 2 ^ F < 9223372036854775808) (hF : F ≤ 52) : Go.bits .or .i64 (x : Int) ((t * 2 ^ F : Nat) : Int) = ((x + t * 2 ^ F : Nat) : Int) := by
  have hp := bm_pow_le hF
  have := (bits_nat .i64 63 (by decide) wraps_i64_63 x (t * 2 ^ F) (by omega) (by omega)).2
  rw [this, Nat.or_comm, ← Nat.shiftLeft_eq, ← Nat.shiftLeft_add_eq_or_of_lt hx, Nat.add_comm]
theorem kn_shl (d s : Nat) (hd : d < 65536) (hs : s ≤ 16) : shl .i64 (d : Int) (s : Int) = ((d * 2 ^ s : Nat) : Int) := by
  unfold shl
  have h1 := bm_pow_le hs
  have h2 : d * 2 ^ s ≤ 65535 * 65536 := Nat.mul_le_mul (by omega) (by omega)
  rw [Int.toNat_natCast, show min s IntKind.i64.bits = s by simp [IntKind.bits]; omega, bm_two, ← Int.natCast_mul, i64_w]
  unfold wrap64; omega
theorem kn_mod (d s : Nat) (hs : s ≤ 16) : d * 2 ^ s % 65536 = d % 2 ^ (16 - s) * 2 ^ s := by
  rw [show 65536 = 2 ^ (16 - s) * 2 ^ s by rw [← Nat.pow_add, show 16 - s + s = 16 by omega]]
  exact Nat.mul_mod_mul_right ..
/-- One digit of a shift up. -/
theorem kn_up_bits (x d s : Nat) (hx : x < 2 ^ s) (hd : d < 65536) (hs : s ≤ 15) :
    Go.bits .or .i64 (x : Int) (Go.bits .and .i64 (shl .i64 (d : Int) (s : Int)) 65535) = ((x + d * 2 ^ s % 65536 : Nat) : Int) ∧ x + d * 2 ^ s % 65536 < 65536 ∧ d * 2 ^ s / 65536 < 2 ^ s := by
  have h1 := bm_pow_le (show s ≤ 15 by omega)
  have h2 : d * 2 ^ s ≤ 65535 * 2 ^ 15 := Nat.mul_le_mul (by omega) h1
  have hm := kn_mod d s (by omega)
  have hl : d % 2 ^ (16 - s) * 2 ^ s + 2 ^ s ≤ 65536 := by
    have := Nat.mod_lt d (Nat.two_pow_pos (16 - s))
    have h3 := Nat.mul_le_mul_right (2 ^ s) (show d % 2 ^ (16 - s) + 1 ≤ 2 ^ (16 - s) by omega)
    rw [← Nat.pow_add, show 16 - s + s = 16 by omega, Nat.add_mul] at h3
    omega
  refine ⟨?_, by omega, ?_⟩
  · rw [kn_shl d s hd (by omega), i64_mask16 _ (by omega) (by omega), show ((d * 2 ^ s : Nat) : Int) % 65536 = ((d * 2 ^ s % 65536 : Nat) : Int) by omega, hm]
    exact kn_or x _ s hx (by omega) (by omega)
  · rw [Nat.div_lt_iff_lt_mul (by omega)]
    have := Nat.mul_lt_mul_of_pos_right hd (Nat.two_pow_pos s)
    rw [Nat.mul_comm (2 ^ s)]; exact this
theorem kn_up_uv (x d : Int) (s : Nat) (hx : 0 ≤ x ∧ x < ((2 ^ s : Nat) : Int)) (hd : 0 ≤ d ∧ d < 65536) (hs : s ≤ 15) : ∃ u v : Int, d * ((2 ^ s : Nat) : Int) = u + 65536 * v ∧ (0 ≤ u ∧ x + u < 65536) ∧ (0 ≤ v ∧ v < 65536) ∧ v < ((2 ^ s : Nat) : Int) ∧ Go.bits .or .i64 x (Go.bits .and .i64 (shl .i64 d (s : Int)) 65535) = x + u ∧ shl .i64 d (s : Int) / 65536 = v := by
  obtain ⟨xn, rfl⟩ : ∃ n : Nat, x = (n : Int) := ⟨x.toNat, by omega⟩
  obtain ⟨an, rfl⟩ : ∃ n : Nat, d = (n : Int) := ⟨d.toNat, by omega⟩
  obtain ⟨b1, b2, b3⟩ := kn_up_bits xn an s (by omega) (by omega) hs
  have sh := kn_shl an s (by omega) (by omega)
  have h15 := bm_pow_le (show s ≤ 15 by omega)
  refine ⟨((an * 2 ^ s % 65536 : Nat) : Int), ((an * 2 ^ s / 65536 : Nat) : Int), ?_, ?_, ?_, ?_, ?_, ?_⟩
  · rw [← Int.natCast_mul]; omega
  · omega
  · omega
  · omega
  · rw [b1]; omega
  · rw [sh]; omega
theorem kn_up_alg (V P d T x u v : Int) (h : d * T = u + 65536 * v) : V * T + P * (x + u - x) + 65536 * P * (v - 0) = (V + P * d) * T := by grind
theorem kn_up_val (a x : List Int) (s i : Nat) (u v : Int) (hi : i + 1 < x.length) (h0 : x.getD (i + 1) 0 = 0) (hv : MN.val x = MN.val (a.take i) * ((2 ^ s : Nat) : Int)) (h : a.getD i 0 * ((2 ^ s : Nat) : Int) = u + 65536 * v) : MN.val ((x.set i (x.getD i 0 + u)).set (i + 1) v) = MN.val (a.take (i + 1)) * ((2 ^ s : Nat) : Int) := by
  rw [MN.val_set (by rw [List.length_set]; exact hi), MN.val_set (Nat.lt_of_succ_lt hi), getD_set_ne _ _ _ _ (Nat.ne_of_lt (Nat.lt_succ_self i)), h0, hv, take_val' a i, MN.pw_succ]
  exact kn_up_alg _ _ _ _ _ _ _ h
theorem w64n (i : Nat) (h : i ≤ 1048576) : wrap64 (i : Int) = (i : Int) := by unfold wrap64; omega
theorem w640 : wrap64 0 = 0 := by unfold wrap64; omega
theorem kn_up_l (a : List Int) (ha : MN.DOk a) (la : a.length ≤ 300) (s : Nat) (hs : s ≤ 15) : ∀ (d k i : Nat) (x : List Int), i + d = a.length → x.length = a.length + 1 → MN.DOk x → x.getD i 0 < ((2 ^ s : Nat) : Int) → (∀ m, i < m → x.getD m 0 = 0) → MN.val x = MN.val (a.take i) * ((2 ^ s : Nat) : Int) → 3000 + d < k →
    ∃ y, impl_natShift.l1 k (s : Int) x a (a.length : Int) (i : Int) = some (MN.trimD y) ∧ y.length = a.length + 1 ∧ MN.DOk y ∧ MN.val y = MN.val a * ((2 ^ s : Nat) : Int) := by
  intro d
  induction d with
  | zero =>
    intro k i x hi hx dx _ _ hv hk
    obtain ⟨k, rfl⟩ : ∃ q, k = q + 1 := ⟨k - 1, by omega⟩
    refine ⟨x, ?_, hx, dx, ?_⟩
    · rw [impl_natShift.l1, if_neg (by omega), e_iTrim k x (by omega) (by omega), Option.bind_some]
    · rw [hv, show i = a.length by omega, List.take_length]
  | succ d ih =>
    intro k i x hi hx dx hx0 hz hv hk
    obtain ⟨k, rfl⟩ : ∃ q, k = q + 1 := ⟨k - 1, by omega⟩
    have rx := dx.getD i
    have ra := ha.getD i
    obtain ⟨u, v, u1, u2, u3, u4, u5, u6⟩ := kn_up_uv (x.getD i 0) (a.getD i 0) s ⟨rx.1, hx0⟩ ra hs
    have h1 := hz (i + 1) (Nat.lt_succ_self i)
    have vl := kn_up_val a x s i u v (by clear u4 u5 u6 u1 hv hx0 ih; omega) h1 hv u1
    have dx1 := (dx.set i (x := x.getD i 0 + u) (Int.add_nonneg rx.1 u2.1) u2.2).set (i + 1) u3.1 u3.2
    clear hv u1 dx
    have i3 : i ≤ 1048576 := by clear u4 u5 u6 vl dx1; omega
    have c1 : (i : Int) < (a.length : Int) := by clear u4 u5 u6 vl dx1; omega
    have c2 : (i : Int) < (x.length : Int) := by clear u4 u5 u6 vl dx1; omega
    have c3 : ((i + 1 : Nat) : Int) < (x.length : Int) := by clear u4 u5 u6 vl dx1; omega
    have l1 : i + 1 < (x.set i (x.getD i 0 + u)).length := by rw [List.length_set, hx]; clear u4 u5 u6 vl dx1; omega
    have l2 : i + 1 + d = a.length := by clear u4 u5 u6 vl dx1; omega
    have l3 : 3000 + d < k := by clear u4 u5 u6 vl dx1; omega
    have t0 : Int.tdiv (s : Int) 16 = 0 := by rw [Int.tdiv_eq_ediv_of_nonneg (Int.natCast_nonneg _)]; clear u4 hx0; omega
    have t1 : Int.tmod (s : Int) 16 = (s : Int) := by rw [Int.tmod_eq_emod_of_nonneg (Int.natCast_nonneg _)]; clear u4 hx0; omega
    clear hx0
    have w0 : wrap64 (0 : Int) = 0 := w640
    have w1 : wrap64 (0 + (i : Int)) = (i : Int) := by rw [Int.zero_add]; exact w64n i i3
    have w2 : wrap64 ((i : Int) + 1) = ((i + 1 : Nat) : Int) := w64i i i3
    obtain ⟨y, f1, f2⟩ := ih k (i + 1) ((x.set i (x.getD i 0 + u)).set (i + 1) v) l2 (by rw [List.length_set, List.length_set, hx]) dx1 (by rw [getD_set_eq (x.set i (x.getD i 0 + u)) (i + 1) v l1]; exact u4) (fun m hm => by rw [getD_set_ne (x.set i (x.getD i 0 + u)) (i + 1) m v (Nat.ne_of_lt hm), getD_set_ne x i m _ (Nat.ne_of_lt (Nat.lt_of_succ_lt hm))]; exact hz m (Nat.lt_of_succ_lt hm)) vl l3
    refine ⟨y, ?_, f2⟩
    rw [impl_natShift.l1, if_pos c1, if_pos (Int.natCast_nonneg _), if_pos c1, t1, if_pos (Int.natCast_nonneg _), t0, w0, w1, if_pos (Int.natCast_nonneg _), if_pos c2, w2, if_pos (Int.natCast_nonneg _), if_pos c3, e_rd0, e_rd0, u5, u6, Int.toNat_natCast, Int.toNat_natCast]
    exact f1
/-- A shift up by less than a digit. -/
theorem kn_up (k : Nat) (a : List Int) (s : Nat) (ha : MN.DOk a) (la : a.length ≤ 300) (hs : s ≤ 15) (hk : 5000 ≤ k) : ∃ y, impl_natShift.f k a (s : Int) = some y ∧ MN.Can y ∧ MN.val y = MN.val a * ((2 ^ s : Nat) : Int) := by
  have t0 : Int.tdiv (s : Int) 16 = 0 := by rw [Int.tdiv_eq_ediv_of_nonneg (by omega)]; omega
  have w0 : wrap64 (0 : Int) = 0 := w640
  have w1 : wrap64 (wrap64 (0 + (a.length : Int)) + 1) = ((a.length + 1 : Nat) : Int) := by rw [Int.zero_add, w64n _ (by omega), w64i _ (by omega)]
  obtain ⟨y, f1, f2, f3, f4⟩ := kn_up_l a ha la s hs a.length k 0 (List.replicate (a.length + 1) 0) (by omega) (by simp) (MN.DOk.replicate _) (by
    rw [show (List.replicate (a.length + 1) (0 : Int)).getD 0 0 = 0 by simp [List.getD_eq_getElem?_getD]]
    exact Int.natCast_pos.mpr (Nat.two_pow_pos s)) (fun m _ => by simp [List.getD_eq_getElem?_getD, List.getElem?_replicate]; split <;> rfl) (by rw [MN.val_replicate]; simp [MN.val]) (by omega)
  refine ⟨MN.trimD y, ?_, MN.Can.trimD f3, by rw [MN.val_trimD, f4]⟩
  unfold impl_natShift.f
  rw [if_neg (by omega), t0, w0, w1, if_pos (by omega), Int.toNat_natCast, if_pos (by omega)]
  exact f1
theorem kn_dn (x y : Int) (r : Nat) (hr : 1 ≤ r ∧ r ≤ 15) (hx : 0 ≤ x ∧ x < 65536) (hy : 0 ≤ y ∧ y < 65536) :
    shr .i64 x (r : Int) = x / ((2 ^ r : Nat) : Int) ∧ Go.bits .or .i64 (x / ((2 ^ r : Nat) : Int)) (Go.bits .and .i64 (shl .i64 y ((16 - r : Nat) : Int)) 65535) = x / ((2 ^ r : Nat) : Int) + y % ((2 ^ r : Nat) : Int) * ((2 ^ (16 - r) : Nat) : Int) ∧ (0 ≤ x / ((2 ^ r : Nat) : Int) ∧ x / ((2 ^ r : Nat) : Int) < 65536) ∧ 0 ≤ x / ((2 ^ r : Nat) : Int) + y % ((2 ^ r : Nat) : Int) * ((2 ^ (16 - r) : Nat) : Int) ∧ x / ((2 ^ r : Nat) : Int) + y % ((2 ^ r : Nat) : Int) * ((2 ^ (16 - r) : Nat) : Int) < 65536 := by
  obtain ⟨x, rfl⟩ : ∃ n : Nat, x = (n : Int) := ⟨x.toNat, by omega⟩
  obtain ⟨y, rfl⟩ : ∃ n : Nat, y = (n : Int) := ⟨y.toNat, by omega⟩
  have hT := Nat.two_pow_pos r
  have hQ := Nat.two_pow_pos (16 - r)
  have hTQ : 2 ^ r * 2 ^ (16 - r) = 65536 := by rw [← Nat.pow_add, show r + (16 - r) = 16 by omega]
  have h1 : x / 2 ^ r < 2 ^ (16 - r) := by rw [Nat.div_lt_iff_lt_mul hT, Nat.mul_comm, hTQ]; omega
  have h2 := Nat.mod_lt y hT
  have h3 : y % 2 ^ r * 2 ^ (16 - r) + 2 ^ (16 - r) ≤ 65536 := by
    have := Nat.mul_le_mul_right (2 ^ (16 - r)) (show y % 2 ^ r + 1 ≤ 2 ^ r by omega)
    rw [Nat.add_mul, hTQ] at this; omega
  have hm := kn_mod y (16 - r) (by omega)
  rw [show 16 - (16 - r) = r by omega] at hm
  have hs := kn_shl y (16 - r) (by omega) (by omega)
  have e1 : ((x : Int) / ((2 ^ r : Nat) : Int)) = ((x / 2 ^ r : Nat) : Int) := rfl
  have e2 : ((y : Int) % ((2 ^ r : Nat) : Int)) = ((y % 2 ^ r : Nat) : Int) := rfl
  have e3 : ((x / 2 ^ r : Nat) : Int) + ((y % 2 ^ r : Nat) : Int) * ((2 ^ (16 - r) : Nat) : Int) = ((x / 2 ^ r + y % 2 ^ r * 2 ^ (16 - r) : Nat) : Int) := by rw [Int.natCast_add, Int.natCast_mul]
  have hle : y * 2 ^ (16 - r) ≤ 65535 * 65536 := Nat.mul_le_mul (by omega) (by have := bm_pow_le (show 16 - r ≤ 16 by omega); omega)
  rw [e1, e2, e3]
  refine ⟨?_, ?_, ⟨Int.natCast_nonneg _, Int.ofNat_lt.mpr (show x / 2 ^ r < 65536 by omega)⟩, Int.natCast_nonneg _, Int.ofNat_lt.mpr (show x / 2 ^ r + y % 2 ^ r * 2 ^ (16 - r) < 65536 by omega)⟩
  · unfold shr
    rw [Int.toNat_natCast, show min r IntKind.i64.bits = r by simp [IntKind.bits]; omega, bm_two]; rfl
  · rw [hs, i64_mask16 _ (by omega) (by omega), show ((y * 2 ^ (16 - r) : Nat) : Int) % 65536 = ((y * 2 ^ (16 - r) % 65536 : Nat) : Int) by omega, hm]
    exact kn_or _ _ _ h1 (by omega) (by omega)
theorem kn_dn_alg (a0 M Q T : Int) (hT : 0 < T) (hTQ : T * Q = 65536) : (a0 + 65536 * M) / T = a0 / T + M % T * Q + 65536 * (M / T) := by
  have h1 : a0 + 65536 * M = a0 + T * (Q * M) := by rw [← Int.mul_assoc, hTQ]
  have h2 := Int.mul_ediv_add_emod M T
  rw [h1, Int.add_mul_ediv_left _ _ (by omega), ← hTQ]
  generalize a0 / T = u
  generalize M / T = v at *
  generalize M % T = z at *
  subst h2
  grind
theorem kn_dn_mod (a1 V Q T : Int) (hTQ : T * Q = 65536) : (a1 + 65536 * V) % T = a1 % T := by
  rw [← hTQ, Int.mul_assoc, Int.add_mul_emod_self_left]
/-- A row whose digits are those of a shift down holds the quotient. -/
theorem kn_dn_val (a x : List Int) (T Q : Int) (hT : 0 < T) (hTQ : T * Q = 65536) (hl : x.length = a.length) (h : ∀ m, m < a.length → x.getD m 0 = a.getD m 0 / T + a.getD (m + 1) 0 % T * Q) : ∀ (d j : Nat), j + d = a.length → MN.val (x.drop j) = MN.val (a.drop j) / T := by
  intro d
  induction d with
  | zero =>
    intro j hj
    rw [List.drop_eq_nil_of_le (by omega), List.drop_eq_nil_of_le (by omega)]
    simp [MN.val]
  | succ d ih =>
    intro j hj
    rw [drop_val x j (by omega), drop_val a j (by omega), ih (j + 1) (by omega), h j (by omega), kn_dn_alg _ _ Q T hT hTQ]
    have : MN.val (a.drop (j + 1)) % T = a.getD (j + 1) 0 % T := by
      by_cases c : j + 1 < a.length
      · rw [drop_val a (j + 1) c, kn_dn_mod _ _ Q T hTQ]
      · rw [List.drop_eq_nil_of_le (by omega), List.getD_eq_getElem?_getD, List.getElem?_eq_none (by omega)]
        simp [MN.val]
    rw [this]
theorem kn_dn_l (a : List Int) (ha : MN.DOk a) (la : a.length ≤ 300) (r : Nat) (hr : 1 ≤ r ∧ r ≤ 15) : ∀ (d k i : Nat) (x : List Int), i + d = a.length → x.length = a.length → (∀ m, m < i → x.getD m 0 = a.getD m 0 / ((2 ^ r : Nat) : Int) + a.getD (m + 1) 0 % ((2 ^ r : Nat) : Int) * ((2 ^ (16 - r) : Nat) : Int)) → (∀ m, i ≤ m → x.getD m 0 = a.getD m 0) → 3000 + d < k →
    ∃ y, impl_natShift.l0 k a 0 (r : Int) x (a.length : Int) (i : Int) = some (MN.trimD y) ∧ y.length = a.length ∧ (∀ m, m < a.length → y.getD m 0 = a.getD m 0 / ((2 ^ r : Nat) : Int) + a.getD (m + 1) 0 % ((2 ^ r : Nat) : Int) * ((2 ^ (16 - r) : Nat) : Int)) := by
  intro d
  induction d with
  | zero =>
    intro k i x hi hx hlo _ hk
    obtain ⟨k, rfl⟩ : ∃ q, k = q + 1 := ⟨k - 1, by omega⟩
    refine ⟨x, ?_, hx, fun m hm => hlo m (by omega)⟩
    rw [impl_natShift.l0, if_neg (by omega), e_iTrim k x (by omega) (by omega), Option.bind_some]
  | succ d ih =>
    intro k i x hi hx hlo hhi hk
    obtain ⟨k, rfl⟩ : ∃ q, k = q + 1 := ⟨k - 1, by omega⟩
    have c1 : (i : Int) < (a.length : Int) := by omega
    have c2 : (i : Int) < (x.length : Int) := by omega
    have c2' : i < x.length := by omega
    have i3 : i ≤ 1048576 := by omega
    have l2 : i + 1 + d = a.length := by omega
    have l3 : 3000 + d < k := by omega
    obtain ⟨s1, s2, s3, s4, s5⟩ := kn_dn (a.getD i 0) (a.getD (i + 1) 0) r hr (ha.getD i) (ha.getD (i + 1))
    have w16 : wrap64 (16 - (r : Int)) = ((16 - r : Nat) : Int) := by clear s1 s2 s3 s4 s5 c1 c2; unfold wrap64; omega
    have w1 : wrap64 (wrap64 (0 + (i : Int)) + 1) = ((i + 1 : Nat) : Int) := by rw [Int.zero_add, w64n i i3]; exact w64i i i3
    have w2 : wrap64 ((i : Int) + 1) = ((i + 1 : Nat) : Int) := w64i i i3
    have hxi := hhi i (Nat.le_refl i)
    have key : impl_natShift.l0 (k + 1) a 0 (r : Int) x (a.length : Int) (i : Int) = impl_natShift.l0 k a 0 (r : Int) (x.set i (a.getD i 0 / ((2 ^ r : Nat) : Int) + a.getD (i + 1) 0 % ((2 ^ r : Nat) : Int) * ((2 ^ (16 - r) : Nat) : Int))) (a.length : Int) ((i + 1 : Nat) : Int) := by
      rw [impl_natShift.l0, if_pos c1, if_pos (Int.natCast_nonneg _), if_pos c2, if_pos (Int.natCast_nonneg _), Option.bind_some, e_rd0 x i, hxi, s1, Int.toNat_natCast, w1]
      by_cases c : ((i + 1 : Nat) : Int) < (a.length : Int)
      · rw [if_pos c, if_pos (Int.natCast_nonneg _), w16, if_pos (Int.natCast_nonneg _), e_rd0, getD_set_eq x i _ c2', e_rd0, s2, List.set_set, w2]
      · rw [if_neg c, w2]
        have z : a.getD (i + 1) 0 = 0 := by rw [List.getD_eq_getElem?_getD, List.getElem?_eq_none (by exact Int.ofNat_le.mp (Int.not_lt.mp c))]; rfl
        rw [z, Int.zero_emod, Int.zero_mul, Int.add_zero]
    obtain ⟨y, f1, f2⟩ := ih k (i + 1) (x.set i (a.getD i 0 / ((2 ^ r : Nat) : Int) + a.getD (i + 1) 0 % ((2 ^ r : Nat) : Int) * ((2 ^ (16 - r) : Nat) : Int))) l2 (by rw [List.length_set, hx]) (fun m hm => by
      rcases Nat.lt_or_ge m i with h | h
      · rw [getD_set_ne x i m _ (Nat.ne_of_gt h)]; exact hlo m h
      · obtain rfl : m = i := Nat.le_antisymm (Nat.lt_succ_iff.mp hm) h
        rw [getD_set_eq x m _ c2']) (fun m hm => by rw [getD_set_ne x i m _ (Nat.ne_of_lt hm)]; exact hhi m (Nat.le_of_lt hm)) l3
    exact ⟨y, key.trans f1, f2⟩
/-- A shift down by less than a digit. -/
theorem kn_down (k : Nat) (a : List Int) (r : Nat) (ha : MN.DOk a) (la : a.length ≤ 300) (hr : 1 ≤ r ∧ r ≤ 15) (hk : 5000 ≤ k) : ∃ y, impl_natShift.f k a (-(r : Int)) = some y ∧ MN.Can y ∧ MN.val y = MN.val a / ((2 ^ r : Nat) : Int) := by
  have wn : wrap64 (-(-(r : Int))) = (r : Int) := by rw [Int.neg_neg]; exact w64n r (by omega)
  have t0 : Int.tdiv (r : Int) 16 = 0 := by rw [Int.tdiv_eq_ediv_of_nonneg (by omega)]; clear wn; omega
  have t1 : Int.tmod (r : Int) 16 = (r : Int) := by rw [Int.tmod_eq_emod_of_nonneg (by omega)]; clear wn; omega
  have hn : -(r : Int) < 0 := by clear wn t0 t1; omega
  have hT := Nat.two_pow_pos r
  have hTQ : ((2 ^ r : Nat) : Int) * ((2 ^ (16 - r) : Nat) : Int) = 65536 := by
    rw [← Int.natCast_mul, ← Nat.pow_add, show r + (16 - r) = 16 by clear wn t0 t1 hn; omega]; rfl
  unfold impl_natShift.f
  rw [if_pos hn, wn, t0, w640]
  by_cases c : a = []
  · subst c
    refine ⟨[], by rw [if_pos (by simp)], MN.Can.nil, by simp [MN.val]⟩
  · have hp : 0 < a.length := List.length_pos_iff.mpr c
    rw [if_neg (by clear wn t0 t1 hn hTQ hT; omega), if_pos (by decide), if_pos (Int.natCast_nonneg _), t1]
    have e : slices_Clone_int_int.f (a.drop ((0 : Int).toNat)) = some a := by
      have := e_clone a (by clear wn t0 t1 hn hTQ hT; omega)
      unfold impl_clone_int.f at this
      exact this
    rw [e, Option.bind_some]
    obtain ⟨y, f1, f2, f3⟩ := kn_dn_l a ha la r hr a.length k 0 a (Nat.zero_add _) rfl (fun m hm => absurd hm (Nat.not_lt_zero m)) (fun m _ => rfl) (by clear wn t0 t1 hn hTQ hT; omega)
    have dy : MN.DOk y := dok_of fun m hm => by
      rw [f3 m (by rw [← f2]; exact hm)]
      exact (kn_dn _ _ r hr (ha.getD m) (ha.getD (m + 1))).2.2.2
    refine ⟨MN.trimD y, f1, MN.Can.trimD dy, ?_⟩
    rw [MN.val_trimD]
    exact kn_dn_val a y _ _ (by rw [← Int.natCast_zero]; exact Int.ofNat_lt.mpr hT) hTQ f2 f3 a.length 0 (Nat.zero_add _)
theorem kn_qmax (qh rh v1 T : Int) (h : qh * v1 + rh = T) (hr : 0 ≤ rh) (hv : 32768 ≤ v1 ∧ v1 ≤ 65535) (hT : T ≤ 65536 * v1 + 65535) : qh ≤ 65537 := by
  rcases Int.lt_or_le 65537 qh with c | c
  · have := Int.mul_le_mul_of_nonneg_right (show 65538 ≤ qh by omega) (show 0 ≤ v1 by omega)
    omega
  · exact c
theorem kn_qbig (qh rh v1 T : Int) (h : qh * v1 + rh = T) (hr : 65536 ≤ rh) (hv : 32768 ≤ v1 ∧ v1 ≤ 65535) (hT : T ≤ 65536 * v1 + 65535) : qh ≤ 65535 := by
  rcases Int.lt_or_le 65535 qh with c | c
  · have := Int.mul_le_mul_of_nonneg_right (show 65536 ≤ qh by omega) (show 0 ≤ v1 by omega)
    omega
  · exact c
theorem kn_prod (a b : Int) (ha : 0 ≤ a ∧ a ≤ 65537) (hb : 0 ≤ b ∧ b ≤ 65535) : 0 ≤ a * b ∧ a * b ≤ 4294967295 + 65536 ∧ (a ≤ 65535 → a * b ≤ 4294836225) := by
  refine ⟨Int.mul_nonneg ha.1 hb.1, ?_, fun h => ?_⟩
  · have h1 := Int.mul_le_mul_of_nonneg_right ha.2 hb.1
    omega
  · have h1 := Int.mul_le_mul_of_nonneg_right h hb.1
    omega
theorem kn_dec (qh v1 rh T : Int) (h : qh * v1 + rh = T) : (qh - 1) * v1 + (rh + v1) = T := by rw [Int.sub_mul]; omega
/-- The guess set right by the second digit: at most one too great. -/
theorem kn_corr (by_ : Int) (v u out : List Int) (n j : Nat) (hn : v.length = n) (hn2 : 2 ≤ n ∧ n ≤ 300) (hj : j + n < u.length) (lu : u.length ≤ 1000) (dv : MN.DOk v) (du : MN.DOk u) (T q : Int) (hq : 0 ≤ q ∧ q ≤ 65535) (h1 : 32768 ≤ v.getD (n - 1) 0) (hT : T ≤ 65536 * v.getD (n - 1) 0 + 65535)
    (hA : ∀ qh rh, qh * v.getD (n - 1) 0 + rh = T → q ≤ qh → qh * v.getD (n - 2) 0 > rh * 65536 + u.getD (j + n - 2) 0 → q ≤ qh - 1)
    (hB : ∀ qh rh, qh * v.getD (n - 1) 0 + rh = T → qh ≤ 65535 → qh * v.getD (n - 2) 0 ≤ rh * 65536 + u.getD (j + n - 2) 0 → qh ≤ q + 1) :
    ∀ (d k : Nat) (qh rh : Int), qh * v.getD (n - 1) 0 + rh = T → q ≤ qh → 0 ≤ rh ∧ rh ≤ 65535 → 65536 - rh ≤ 32768 * (d : Int) → 2 * d + 5 ≤ k →
    ∃ q', q ≤ q' ∧ q' ≤ q + 1 ∧ ∃ k', k ≤ k' + 2 * d + 2 ∧ impl_natDiv.l3 k by_ v u (n : Int) out (j : Int) qh rh = impl_natDiv.j5 k' by_ v u (n : Int) out (j : Int) q' := by
  intro d
  induction d with
  | zero => intro k qh rh _ _ hr hd; exact absurd hd (by omega)
  | succ d ih =>
    intro k qh rh hT1 hqq hr hd hk
    obtain ⟨k, rfl⟩ : ∃ z, k = z + 2 := ⟨k - 2, by omega⟩
    have r1 := dv.getD (n - 1)
    have r2 := dv.getD (n - 2)
    have r3 := du.getD (j + n - 2)
    have qm := kn_qmax qh rh _ T hT1 hr.1 ⟨h1, by omega⟩ hT
    obtain ⟨p0, p1, p2⟩ := kn_prod qh (v.getD (n - 2) 0) ⟨by omega, qm⟩ ⟨r2.1, by omega⟩
    have hd1 := kn_dec qh _ rh T hT1
    have c1 : ((n - 2 : Nat) : Int) < (v.length : Int) := by omega
    have c2 : ((n - 1 : Nat) : Int) < (v.length : Int) := by omega
    have c3 : ((j + n - 2 : Nat) : Int) < (u.length : Int) := by omega
    have k1 : 2 * d + 5 ≤ k := by omega
    have d1 : 65536 - (rh + v.getD (n - 1) 0) ≤ 32768 * (d : Int) := by omega
    have d0 : 0 ≤ rh + v.getD (n - 1) 0 := by omega
    have dr : rh + v.getD (n - 1) 0 ≤ 131070 := by omega
    have n2 : (n : Int) - 2 = ((n - 2 : Nat) : Int) ∧ (n : Int) - 1 = ((n - 1 : Nat) : Int) ∧ (j : Int) + (n : Int) = ((j + n : Nat) : Int) ∧ ((j + n : Nat) : Int) - 2 = ((j + n - 2 : Nat) : Int) := by omega
    have b1 : n - 2 ≤ 1048576 ∧ n - 1 ≤ 1048576 ∧ j + n ≤ 1048576 ∧ j + n - 2 ≤ 1048576 := by omega
    have w5a : -9223372036854775808 ≤ qh * v.getD (n - 2) 0 ∧ qh * v.getD (n - 2) 0 < 9223372036854775808 := by omega
    have w6 : wrap64 (qh - 1) = qh - 1 := by clear hd1 hT1 p0 p1 p2 w5a hT; unfold wrap64; omega
    have w7 : wrap64 (rh + v.getD (n - 1) 0) = rh + v.getD (n - 1) 0 := by clear w6 hd1 hT1 p0 p1 p2 w5a hT; generalize rh + v.getD (n - 1) 0 = z at *; unfold wrap64; omega
    -- what follows when the guess is too great
    have yes : q ≤ qh - 1 → ∃ q', q ≤ q' ∧ q' ≤ q + 1 ∧ ∃ k', (k + 1) + 1 ≤ k' + 2 * (d + 1) + 2 ∧ impl_natDiv.j4 (k + 1) by_ v u (n : Int) out (j : Int) qh rh true = impl_natDiv.j5 k' by_ v u (n : Int) out (j : Int) q' := fun hle => by
      rw [impl_natDiv.j4, if_pos rfl, n2.2.1, w64n _ b1.2.1, if_pos (Int.natCast_nonneg _), if_pos c2, e_rd0, w7, w6]
      by_cases c : rh + v.getD (n - 1) 0 ≥ 65536
      · rw [if_pos c]
        have hb := kn_qbig _ _ _ T hd1 c ⟨h1, by clear w6 w7; omega⟩ hT
        have hz : qh - 1 ≤ q + 1 := hB _ _ hd1 hb (by
          have := (kn_prod (qh - 1) (v.getD (n - 2) 0) ⟨by clear w6 w7; omega, by clear w6 w7; omega⟩ ⟨r2.1, by clear w6 w7; omega⟩).2.2 hb
          clear w6 w7 hd1 hT1 p0 p1 p2 w5a
          omega)
        exact ⟨_, hle, hz, k, by clear w6 w7; omega, rfl⟩
      · rw [if_neg c]
        obtain ⟨q', a1, a2, k', a3, a4⟩ := ih k (qh - 1) (rh + v.getD (n - 1) 0) hd1 hle ⟨d0, by clear w6 w7; omega⟩ d1 k1
        exact ⟨q', a1, a2, k', by clear w6 w7; omega, a4⟩
    rw [impl_natDiv.l3]
    by_cases c : qh ≥ 65536
    · rw [if_pos c]
      obtain ⟨q', a1, a2, k', a3, a4⟩ := yes (by clear w6 w7; omega)
      exact ⟨q', a1, a2, k', a3, a4⟩
    · rw [if_neg c, n2.1, w64n _ b1.1, if_pos (Int.natCast_nonneg _), if_pos c1, n2.2.2.1, w64n _ b1.2.2.1, n2.2.2.2, w64n _ b1.2.2.2, if_pos (Int.natCast_nonneg _), if_pos c3, e_rd0, e_rd0]
      have w5 : wrap64 (qh * v.getD (n - 2) 0) = qh * v.getD (n - 2) 0 := by
        generalize qh * v.getD (n - 2) 0 = z at w5a
        clear w6 w7 hd1 hT1 p0 p1 p2; unfold wrap64; omega
      have w8 : wrap64 (rh * 65536) = rh * 65536 := by clear w5 w6 w7 hd1 hT1 p0 p1 p2 w5a hT; unfold wrap64; omega
      rw [w5, w8, i64_or16 _ _ ⟨hr.1, by clear w5 w6 w7 w8; omega⟩ r3]
      by_cases cc : qh * v.getD (n - 2) 0 > rh * 65536 + u.getD (j + n - 2) 0
      · rw [decide_eq_true cc]
        obtain ⟨q', a1, a2, k', a3, a4⟩ := yes (hA _ _ hT1 hqq cc)
        exact ⟨q', a1, a2, k', a3, a4⟩
      · rw [decide_eq_false cc, impl_natDiv.j4, if_neg (by decide)]
        exact ⟨qh, hqq, hB _ _ hT1 (by clear w5 w6 w7 w8; omega) (by clear w5 w6 w7 w8; omega), k, by clear w5 w6 w7 w8; omega, rfl⟩
theorem kn_A (q qh rh v1 v2 v' u2 u' T P V U : Int) (hP : 0 < P) (hV : V = v' + P * (v2 + 65536 * v1)) (hU : U = u' + P * (u2 + 65536 * T)) (hv : 0 ≤ v') (hu : u' < P) (hVp : 0 < V) (hq0 : 0 ≤ q) (hq : q * V ≤ U) (h : qh * v1 + rh = T) (hle : q ≤ qh) (hgt : qh * v2 > rh * 65536 + u2) : q ≤ qh - 1 := by
  rcases Int.lt_or_le q qh with c | c
  · omega
  · have e : q = qh := by omega
    subst e
    exfalso
    have h1 : q * V = q * v' + P * (q * v2 + 65536 * (q * v1)) := by rw [hV]; grind
    have h2 : 0 ≤ q * v' := Int.mul_nonneg hq0 hv
    have h3 : P * (u2 + 65536 * T + 1) ≤ P * (q * v2 + 65536 * (q * v1)) := Int.mul_le_mul_of_nonneg_left (by omega) (by omega)
    rw [Int.mul_add, Int.mul_one] at h3
    omega
theorem kn_B (q qh rh v1 v2 v' u2 u' T P V U : Int) (hP : 0 < P) (hV : V = v' + P * (v2 + 65536 * v1)) (hU : U = u' + P * (u2 + 65536 * T)) (hv : 0 ≤ v' ∧ v' < P) (hu : 0 ≤ u') (hv1 : 1 ≤ v1) (hv2 : 0 ≤ v2) (hq0 : 0 ≤ q) (hq : U < (q + 1) * V) (h : qh * v1 + rh = T) (hb : qh ≤ 65535) (hle : qh * v2 ≤ rh * 65536 + u2) : qh ≤ q + 1 := by
  rcases Int.lt_or_le qh 0 with c | c
  · omega
  · have h1 : qh * V = qh * v' + P * (qh * v2 + 65536 * (qh * v1)) := by rw [hV]; grind
    have h2 : qh * v' ≤ 65535 * P := Int.le_trans (Int.mul_le_mul_of_nonneg_right hb hv.1) (Int.mul_le_mul_of_nonneg_left (by omega) (by decide))
    have h3 : P * (qh * v2 + 65536 * (qh * v1)) ≤ P * (u2 + 65536 * T) := Int.mul_le_mul_of_nonneg_left (by omega) (by omega)
    have h4 : P * 65536 ≤ P * (v2 + 65536 * v1) := Int.mul_le_mul_of_nonneg_left (by omega) (by omega)
    have h5 : qh * V < (q + 2) * V := by
      have : (q + 2) * V = (q + 1) * V + V := by grind
      omega
    have := Int.lt_of_mul_lt_mul_right h5 (by omega)
    omega
theorem kn_alg3 (V P a b c : Int) : V + P * a + 65536 * P * b + 65536 * (65536 * P) * c = V + P * (a + 65536 * (b + 65536 * c)) := by grind
theorem kn_alg2 (V P a b : Int) : V + P * a + 65536 * P * b = V + P * (a + 65536 * b) := by grind
/-- The window of a row: its digits from j on, n + 1 of them. -/
def wn (u : List Int) (j n : Nat) : Int := MN.val ((u.drop j).take (n + 1))
theorem getD_drop' (u : List Int) (j m : Nat) : (u.drop j).getD m 0 = u.getD (j + m) 0 := by
  rw [List.getD_eq_getElem?_getD, List.getD_eq_getElem?_getD, List.getElem?_drop]
theorem wn_split (u : List Int) (j n : Nat) (hn : 2 ≤ n) : wn u j n = MN.val ((u.drop j).take (n - 2)) + MN.pw (n - 2) * (u.getD (j + n - 2) 0 + 65536 * (u.getD (j + n - 1) 0 + 65536 * u.getD (j + n) 0)) := by
  obtain ⟨m, rfl⟩ : ∃ m, n = m + 2 := ⟨n - 2, by omega⟩
  unfold wn
  have e2 : MN.pw (m + 2) = 65536 * (65536 * MN.pw m) := by rw [MN.pw_succ, MN.pw_succ]
  rw [take_val', take_val', take_val', getD_drop', getD_drop', getD_drop', e2, MN.pw_succ m]
  rw [show m + 2 - 2 = m from rfl, show j + (m + 2) - 2 = j + m by omega, show j + (m + 2) - 1 = j + (m + 1) by omega]
  exact kn_alg3 _ _ _ _ _
theorem val_split2 (v : List Int) (n : Nat) (hn : 2 ≤ n) (hl : v.length = n) : MN.val v = MN.val (v.take (n - 2)) + MN.pw (n - 2) * (v.getD (n - 2) 0 + 65536 * v.getD (n - 1) 0) := by
  obtain ⟨m, rfl⟩ : ∃ m, n = m + 2 := ⟨n - 2, by omega⟩
  have : MN.val v = MN.val (v.take (m + 2)) := by rw [← hl, List.take_length]
  rw [this, take_val', take_val', MN.pw_succ m]
  rw [show m + 2 - 2 = m from rfl, show m + 2 - 1 = m + 1 from rfl]
  exact kn_alg2 _ _ _ _
theorem kn_T (T v1 u0 u1 : Int) (h : T = u1 + 65536 * u0) (h0 : u0 ≤ v1) (h1 : u1 ≤ 65535) : T ≤ 65536 * v1 + 65535 := by omega
theorem dok_low {a : List Int} (h : MN.DOk a) (n : Nat) : 0 ≤ MN.val (a.take n) ∧ MN.val (a.take n) < MN.pw n := ⟨MN.val_nonneg (h.take n), MN.Can.lt_of_len (h.take n) (by rw [List.length_take]; omega)⟩
/-- The topmost digits of a window that is below the base times v. -/
theorem kn_top (v' u' v1 v2 u0 u1 u2 P V U : Int) (hP : 0 < P) (hV : V = v' + P * (v2 + 65536 * v1)) (hU : U = u' + P * (u2 + 65536 * (u1 + 65536 * u0))) (hv : v' < P) (hu : 0 ≤ u') (hu1 : 0 ≤ u1) (hu2 : 0 ≤ u2) (hv2 : v2 ≤ 65535) (h : U < 65536 * V) : u0 ≤ v1 := by
  rcases Int.lt_or_le v1 u0 with c | c
  · exfalso
    have h1 : P * (v2 + 65536 * v1 + 1) ≤ P * (65536 * u0) := Int.mul_le_mul_of_nonneg_left (by omega) (by omega)
    have h2 : P * (65536 * (65536 * u0)) ≤ P * (u2 + 65536 * (u1 + 65536 * u0)) := Int.mul_le_mul_of_nonneg_left (by omega) (by omega)
    have h3 : P * (65536 * (65536 * u0)) = 65536 * (P * (65536 * u0)) := by grind
    rw [Int.mul_add P (v2 + 65536 * v1) 1, Int.mul_one] at h1
    omega
  · exact c
theorem kn_ms1 (x b p : Int) (hx : 0 ≤ x ∧ x < 65536) (hb : 0 ≤ b ∧ b ≤ 65536) (hp : 0 ≤ p ∧ p ≤ 4294901760) : wrap64 (wrap64 (x - b) - wrap64 p) = x - b - p := by unfold wrap64; omega
theorem kn_ms2 (t : Int) (h0 : t < 0) (h1 : -4294967296 ≤ t) : wrap64 (Int.tdiv (wrap64 (wrap64 (wrap64 (-t) + 65536) - 1)) 65536) = (65535 - t) / 65536 := by
  have e : wrap64 (wrap64 (wrap64 (-t) + 65536) - 1) = 65535 - t := by unfold wrap64; omega
  rw [e, Int.tdiv_eq_ediv_of_nonneg (by clear e; omega)]
  clear e; unfold wrap64; omega
theorem kn_ms3 (t : Int) (h0 : t < 0) (h1 : -4294967296 ≤ t) : wrap64 (t + wrap64 ((65535 - t) / 65536 * 65536)) = t + (65535 - t) / 65536 * 65536 ∧ (0 ≤ t + (65535 - t) / 65536 * 65536 ∧ t + (65535 - t) / 65536 * 65536 < 65536) ∧ 0 ≤ (65535 - t) / 65536 ∧ (65535 - t) / 65536 ≤ 65536 := by
  refine ⟨?_, by omega, by omega⟩
  unfold wrap64; omega
theorem kn_ms_val (v u : List Int) (j i : Nat) (q b b' t' : Int) (hi : j + i < u.length) (ht : t' = u.getD (j + i) 0 - b - q * v.getD i 0 + b' * 65536) :
    MN.val (u.set (j + i) t') - b' * MN.pw (j + (i + 1)) + q * MN.val (v.take (i + 1)) * MN.pw j = MN.val u - b * MN.pw (j + i) + q * MN.val (v.take i) * MN.pw j := by
  rw [MN.val_set hi, take_val' v i, show j + (i + 1) = (j + i) + 1 from rfl, MN.pw_succ, MN.pw_add]
  rw [ht]
  generalize u.getD (j + i) 0 = x
  generalize v.getD i 0 = y
  generalize MN.val u = A
  generalize MN.val (v.take i) = C
  generalize MN.pw j = P
  generalize MN.pw i = R
  clear hi ht
  grind
theorem kn_ms_l (by_ : Int) (v out : List Int) (n j : Nat) (q : Int) (hn : v.length = n) (hn2 : n ≤ 300) (dv : MN.DOk v) (hq : 0 ≤ q ∧ q ≤ 65536) (L : Nat) (hj : j + n < L) (hL : L ≤ 1000) :
    ∀ (d k i : Nat) (u : List Int) (b : Int), i + d = n → u.length = L → MN.DOk u → 0 ≤ b ∧ b ≤ 65536 → d < k →
    ∃ u' b' k', u'.length = L ∧ MN.DOk u' ∧ (0 ≤ b' ∧ b' ≤ 65536) ∧ (∀ m, j + n ≤ m → u'.getD m 0 = u.getD m 0) ∧ MN.val u' - b' * MN.pw (j + n) + q * MN.val v * MN.pw j = MN.val u - b * MN.pw (j + i) + q * MN.val (v.take i) * MN.pw j ∧ k = k' + d ∧
      impl_natDiv.l4 k by_ v u (n : Int) out (j : Int) q b v (n : Int) (i : Int) = impl_natDiv.l4 k' by_ v u' (n : Int) out (j : Int) q b' v (n : Int) (n : Int) := by
  intro d
  induction d with
  | zero =>
    intro k i u b hi hu du hb hk
    obtain rfl : i = n := by omega
    have e : v.take i = v := by rw [← hn]; exact List.take_length
    exact ⟨u, b, k, hu, du, hb, fun _ _ => rfl, by rw [e], rfl, rfl⟩
  | succ d ih =>
    intro k i u b hi hu du hb hk
    obtain ⟨k, rfl⟩ : ∃ z, k = z + 1 := ⟨k - 1, by omega⟩
    have rv := dv.getD i
    have ru := du.getD (j + i)
    obtain ⟨p0, p1, _⟩ := kn_prod q (v.getD i 0) ⟨hq.1, by omega⟩ ⟨rv.1, by omega⟩
    have p2 : q * v.getD i 0 ≤ 4294901760 := by
      have := Int.mul_le_mul_of_nonneg_left (show v.getD i 0 ≤ 65535 by omega) hq.1
      omega
    have c1 : (i : Int) < (n : Int) := by omega
    have c2 : (i : Int) < (v.length : Int) := by omega
    have c3 : ((j + i : Nat) : Int) < (u.length : Int) := by omega
    have c3' : j + i < u.length := by omega
    have b1 : j + i ≤ 1048576 ∧ i ≤ 1048576 := by omega
    have hlt : j + i < j + n := by omega
    have hne : j + i ≠ j + n := by omega
    have hi2 : i + 1 + d = n := by omega
    have hk2 : d < k := by omega
    have ji : (j : Int) + (i : Int) = ((j + i : Nat) : Int) := by omega
    have tl : u.getD (j + i) 0 - b - q * v.getD i 0 < 0 → -4294967296 ≤ u.getD (j + i) 0 - b - q * v.getD i 0 := by omega
    have th : u.getD (j + i) 0 - b - q * v.getD i 0 < 65536 := by omega
    have m1 := kn_ms1 _ b _ ru hb ⟨p0, p2⟩
    have wq : wrap64 (q * v.getD i 0) = q * v.getD i 0 := by
      generalize q * v.getD i 0 = z at p0 p1
      clear m1 p2 tl th; unfold wrap64; omega
    have step : ∀ (b' t' : Int), t' = u.getD (j + i) 0 - b - q * v.getD i 0 + b' * 65536 → 0 ≤ t' ∧ t' < 65536 → 0 ≤ b' ∧ b' ≤ 65536 → impl_natDiv.l4 (k + 1) by_ v u (n : Int) out (j : Int) q b v (n : Int) (i : Int) = impl_natDiv.l4 k by_ v (u.set (j + i) t') (n : Int) out (j : Int) q b' v (n : Int) ((i + 1 : Nat) : Int) →
        ∃ u' b' k', u'.length = L ∧ MN.DOk u' ∧ (0 ≤ b' ∧ b' ≤ 65536) ∧ (∀ m, j + n ≤ m → u'.getD m 0 = u.getD m 0) ∧ MN.val u' - b' * MN.pw (j + n) + q * MN.val v * MN.pw j = MN.val u - b * MN.pw (j + i) + q * MN.val (v.take i) * MN.pw j ∧ k + 1 = k' + (d + 1) ∧
      impl_natDiv.l4 (k + 1) by_ v u (n : Int) out (j : Int) q b v (n : Int) (i : Int) = impl_natDiv.l4 k' by_ v u' (n : Int) out (j : Int) q b' v (n : Int) (n : Int) := fun b' t' h1 h2 h3 h4 => by
      obtain ⟨u2, b2, k2, a1, a2, a3, a4, a5, a6, a7⟩ := ih k (i + 1) (u.set (j + i) t') b' hi2 (by rw [List.length_set]; exact hu) (du.set _ h2.1 h2.2) h3 hk2
      refine ⟨u2, b2, k2, a1, a2, a3, ?_, ?_, ?_, h4.trans a7⟩
      · intro m hm
        rw [a4 m hm, getD_set_ne u (j + i) m t' (Nat.ne_of_lt (Nat.lt_of_lt_of_le hlt hm))]
      · rw [a5]; exact kn_ms_val v u j i q b b' t' c3' h1
      · rw [a6, Nat.add_assoc]
    by_cases c : u.getD (j + i) 0 - b - q * v.getD i 0 < 0
    · have m2 := kn_ms2 _ c (tl c)
      obtain ⟨m3, m4, m5, m6⟩ := kn_ms3 _ c (tl c)
      refine step ((65535 - (u.getD (j + i) 0 - b - q * v.getD i 0)) / 65536) (u.getD (j + i) 0 - b - q * v.getD i 0 + (65535 - (u.getD (j + i) 0 - b - q * v.getD i 0)) / 65536 * 65536) rfl m4 ⟨m5, m6⟩ ?_
      rw [impl_natDiv.l4, if_pos c1, if_pos (Int.natCast_nonneg _), if_pos c2, ji, w64n _ b1.1, if_pos (Int.natCast_nonneg _), if_pos c3, e_rd0, e_rd0, m1, if_pos c, m2, m3, Int.toNat_natCast, w64i _ b1.2]
    · refine step 0 (u.getD (j + i) 0 - b - q * v.getD i 0) (by rw [Int.zero_mul, Int.add_zero]) ⟨Int.not_lt.mp c, th⟩ ⟨Int.le_refl _, by decide⟩ ?_
      rw [impl_natDiv.l4, if_pos c1, if_pos (Int.natCast_nonneg _), if_pos c2, ji, w64n _ b1.1, if_pos (Int.natCast_nonneg _), if_pos c3, e_rd0, e_rd0, m1, if_neg c, Int.toNat_natCast, w64i _ b1.2]
theorem kn_ab1 (x y c : Int) (hx : 0 ≤ x ∧ x < 65536) (hy : 0 ≤ y ∧ y < 65536) (hc : 0 ≤ c ∧ c ≤ 1) : wrap64 (wrap64 (x + y) + c) = x + y + c := by unfold wrap64; omega
theorem kn_ab_val (v u : List Int) (j i : Nat) (c c' t' : Int) (hi : j + i < u.length) (ht : t' = u.getD (j + i) 0 + v.getD i 0 + c - c' * 65536) :
    MN.val (u.set (j + i) t') + c' * MN.pw (j + (i + 1)) - MN.val (v.take (i + 1)) * MN.pw j = MN.val u + c * MN.pw (j + i) - MN.val (v.take i) * MN.pw j := by
  rw [MN.val_set hi, take_val' v i, show j + (i + 1) = (j + i) + 1 from rfl, MN.pw_succ, MN.pw_add]
  rw [ht]
  generalize u.getD (j + i) 0 = x
  generalize v.getD i 0 = y
  generalize MN.val u = A
  generalize MN.val (v.take i) = C
  generalize MN.pw j = P
  generalize MN.pw i = R
  clear hi ht
  grind
/-- v laid back on a row whose topmost digit may be -1. -/
theorem kn_ab_l (by_ : Int) (v out : List Int) (n j : Nat) (q : Int) (hn : v.length = n) (hn2 : n ≤ 300) (dv : MN.DOk v) (L : Nat) (hj : j + n < L) (hL : L ≤ 1000) :
    ∀ (d k i : Nat) (u : List Int) (c : Int), i + d = n → u.length = L → (∀ m, m ≠ j + n → 0 ≤ u.getD m 0 ∧ u.getD m 0 < 65536) → 0 ≤ c ∧ c ≤ 1 → d < k →
    ∃ u' c' k', u'.length = L ∧ (∀ m, m ≠ j + n → 0 ≤ u'.getD m 0 ∧ u'.getD m 0 < 65536) ∧ (0 ≤ c' ∧ c' ≤ 1) ∧ (∀ m, j + n ≤ m → u'.getD m 0 = u.getD m 0) ∧ MN.val u' + c' * MN.pw (j + n) - MN.val v * MN.pw j = MN.val u + c * MN.pw (j + i) - MN.val (v.take i) * MN.pw j ∧ k = k' + d ∧
      impl_natDiv.l5 k by_ v u (n : Int) out (j : Int) q c v (n : Int) (i : Int) = impl_natDiv.l5 k' by_ v u' (n : Int) out (j : Int) q c' v (n : Int) (n : Int) := by
  intro d
  induction d with
  | zero =>
    intro k i u c hi hu du hc hk
    obtain rfl : i = n := by omega
    have e : v.take i = v := by rw [← hn]; exact List.take_length
    exact ⟨u, c, k, hu, du, hc, fun _ _ => rfl, by rw [e], rfl, rfl⟩
  | succ d ih =>
    intro k i u c hi hu du hc hk
    obtain ⟨k, rfl⟩ : ∃ z, k = z + 1 := ⟨k - 1, by omega⟩
    have hlt : j + i < j + n := by omega
    have hne : j + i ≠ j + n := by omega
    have rv := dv.getD i
    have ru := du (j + i) hne
    have c1 : (i : Int) < (n : Int) := by omega
    have c2 : (i : Int) < (v.length : Int) := by omega
    have c3 : ((j + i : Nat) : Int) < (u.length : Int) := by omega
    have c3' : j + i < u.length := by omega
    have b1 : j + i ≤ 1048576 ∧ i ≤ 1048576 := by omega
    have hi2 : i + 1 + d = n := by omega
    have hk2 : d < k := by omega
    have ji : (j : Int) + (i : Int) = ((j + i : Nat) : Int) := by omega
    obtain ⟨t, ht⟩ : ∃ t, t = u.getD (j + i) 0 + v.getD i 0 + c := ⟨_, rfl⟩
    have tr : 0 ≤ t ∧ t < 131072 := by omega
    have cr : 0 ≤ t / 65536 ∧ t / 65536 ≤ 1 := by omega
    have mr : 0 ≤ t % 65536 ∧ t % 65536 < 65536 := by omega
    have tm : t % 65536 = u.getD (j + i) 0 + v.getD i 0 + c - t / 65536 * 65536 := by omega
    obtain ⟨u2, c2', k2, a1, a2, a3, a4, a5, a6, a7⟩ := ih k (i + 1) (u.set (j + i) (t % 65536)) (t / 65536) hi2 (by rw [List.length_set]; exact hu) (fun m hm => by
      by_cases e : j + i = m
      · subst e; rw [getD_set_eq u _ _ c3']; exact mr
      · rw [getD_set_ne u _ _ _ e]; exact du m hm) cr hk2
    refine ⟨u2, c2', k2, a1, a2, a3, ?_, ?_, ?_, ?_⟩
    · intro m hm
      rw [a4 m hm, getD_set_ne u (j + i) m _ (Nat.ne_of_lt (Nat.lt_of_lt_of_le hlt hm))]
    · rw [a5]; exact kn_ab_val v u j i c _ _ c3' tm
    · rw [a6, Nat.add_assoc]
    · have m1 := kn_ab1 _ _ c ru rv hc
      rw [impl_natDiv.l5, if_pos c1, if_pos (Int.natCast_nonneg _), if_pos c2, ji, w64n _ b1.1, if_pos (Int.natCast_nonneg _), if_pos c3, e_rd0, e_rd0, m1, ← ht, i64_mask16 t tr.1 (Int.lt_trans tr.2 (by decide)), Int.toNat_natCast, w64i _ b1.2]
      exact a7
theorem val_td (y : List Int) (p : Nat) (hp : p ≤ y.length) : MN.val y = MN.val (y.take p) + MN.pw p * MN.val (y.drop p) := by
  have := MN.val_append (y.take p) (y.drop p)
  rw [List.take_append_drop, List.length_take, Nat.min_eq_left hp] at this
  exact this
theorem getD_mem_le {x : List Int} (h : MN.DOk x) (i : Nat) : MN.pw i * x.getD i 0 ≤ MN.val x := by
  by_cases c : i < x.length
  · have h1 := MN.val_set c 0
    have h2 := MN.val_nonneg (h.set i (x := 0) (by omega) (by omega))
    rw [h1, Int.zero_sub, Int.mul_neg] at h2
    omega
  · have z : x.getD i 0 = 0 := by rw [List.getD_eq_getElem?_getD, List.getElem?_eq_none (by omega)]; rfl
    rw [z, Int.mul_zero]
    exact MN.val_nonneg h
theorem high_zero {x : List Int} (h : MN.DOk x) (m i : Nat) (hv : MN.val x < MN.pw m) (hi : m ≤ i) : x.getD i 0 = 0 := by
  have h1 := getD_mem_le h i
  have h2 := h.getD i
  have h3 := MN.pw_le hi
  rcases Int.lt_or_le (x.getD i 0) 1 with c | c
  · omega
  · have := Int.mul_le_mul_of_nonneg_left c (Int.le_of_lt (MN.pw_pos i))
    omega
theorem val_zero : ∀ {x : List Int}, (∀ m, x.getD m 0 = 0) → MN.val x = 0
  | [], _ => rfl
  | d :: ds, h => by
    have h0 := h 0
    have h1 := val_zero (x := ds) (fun m => h (m + 1))
    simp only [List.getD_eq_getElem?_getD, List.getElem?_cons_zero, Option.getD_some] at h0
    simp [MN.val, h0, h1]
theorem val_split (y : List Int) (p : Nat) (hp : p < y.length) (hz : ∀ m, p < m → y.getD m 0 = 0) : MN.val y = MN.val (y.take p) + MN.pw p * y.getD p 0 := by
  rw [val_td y p (by omega), drop_val y p hp, val_zero (x := y.drop (p + 1)) (fun m => by rw [getD_drop']; exact hz _ (by omega))]
  rw [Int.mul_zero, Int.add_zero]
theorem low_dok {y : List Int} {p : Nat} (h : ∀ m, m ≠ p → 0 ≤ y.getD m 0 ∧ y.getD m 0 < 65536) : MN.DOk (y.take p) := dok_of fun m hm => by
  rw [List.length_take] at hm
  rw [getD_take y p m (by omega)]
  exact h m (by omega)
theorem digit_of (L P t V lo : Int) (hL : 0 ≤ L ∧ L < P) (hV : V = L + P * t) (k : Int) (h0 : P * k ≤ V) (h1 : V < P * (k + 1)) : t = k := by
  have hP : 0 < P := by omega
  rcases Int.lt_trichotomy t k with c | c | c
  · have := Int.mul_le_mul_of_nonneg_left (show t + 1 ≤ k by omega) (Int.le_of_lt hP)
    rw [Int.mul_add, Int.mul_one] at this
    omega
  · exact c
  · have := Int.mul_le_mul_of_nonneg_left (show k + 1 ≤ t by omega) (Int.le_of_lt hP)
    omega
theorem take_all {x : List Int} (h : MN.DOk x) (m : Nat) (hv : MN.val x < MN.pw m) : MN.val (x.take m) = MN.val x := by
  by_cases c : m ≤ x.length
  · have h1 := val_td x m c
    have h2 : MN.val (x.drop m) = 0 := val_zero fun i => by rw [getD_drop']; exact high_zero h m _ hv (by omega)
    rw [h2, Int.mul_zero, Int.add_zero] at h1
    exact h1.symm
  · rw [List.take_of_length_le (by omega)]
theorem kn_rng (Lu Pj U q V Pn : Int) (hL : 0 ≤ Lu ∧ Lu < Pj) (h0 : q * V ≤ U) (h1 : U < (q + 1) * V) (hV : V ≤ Pn) : 0 ≤ Lu + Pj * U - q * V * Pj ∧ Lu + Pj * U - q * V * Pj < Pj * V ∧ Pj * V ≤ Pj * Pn ∧ -(Pj * Pn) ≤ Lu + Pj * U - (q + 1) * V * Pj ∧ Lu + Pj * U - (q + 1) * V * Pj < 0 := by
  have hP : 0 ≤ Pj := by omega
  have e1 : Lu + Pj * U - q * V * Pj = Lu + Pj * (U - q * V) := by grind
  have e2 : Lu + Pj * U - (q + 1) * V * Pj = Lu + Pj * (U - (q + 1) * V) := by grind
  have e3 : U - (q + 1) * V = U - q * V - V := by grind
  rw [e1, e2, e3]
  rw [Int.add_mul, Int.one_mul] at h1
  have z0 : 0 ≤ U - q * V := by omega
  have a1 := Int.mul_nonneg hP (show 0 ≤ U - q * V by omega)
  have a2 := Int.mul_le_mul_of_nonneg_left (show (U - q * V) + 1 ≤ V by omega) hP
  have a3 := Int.mul_le_mul_of_nonneg_left hV hP
  have a4 := Int.mul_le_mul_of_nonneg_left (show -V ≤ (U - q * V) - V by omega) hP
  have a5 := Int.mul_le_mul_of_nonneg_left (show (U - q * V) - V ≤ -1 by omega) hP
  rw [Int.mul_add, Int.mul_one] at a2
  rw [Int.mul_neg] at a4 a5
  rw [Int.mul_one] at a5
  refine ⟨by omega, by omega, a3, by omega, by omega⟩
theorem below_of (y : List Int) (j : Nat) (V : Int) (hj : j ≤ y.length) (dy : MN.DOk y) (h : MN.val y < MN.pw j * V) : MN.val (y.drop j) < V := by
  have h1 := val_td y j hj
  have h2 := MN.val_nonneg (dy.take j)
  rcases Int.lt_or_le (MN.val (y.drop j)) V with c | c
  · exact c
  · have := Int.mul_le_mul_of_nonneg_left c (Int.le_of_lt (MN.pw_pos j))
    omega
theorem set_digit (y : List Int) (p : Nat) (x : Int) (hp : p < y.length) : MN.val (y.set p x) = MN.val y - MN.pw p * y.getD p 0 + MN.pw p * x := by
  rw [MN.val_set hp, Int.mul_sub]; omega
theorem dok_at {y : List Int} (p : Nat) (h : ∀ m, m ≠ p → 0 ≤ y.getD m 0 ∧ y.getD m 0 < 65536) (h0 : y.getD p 0 = 0) : MN.DOk y := dok_of fun m _ => by
  by_cases c : m = p
  · subst c; rw [h0]; decide
  · exact h m c
theorem kn_w0 (x b : Int) (hx : 0 ≤ x ∧ x < 65536) (hb : 0 ≤ b ∧ b ≤ 65536) : wrap64 (x - b) = x - b := by unfold wrap64; omega
theorem kn_w1 (c : Int) (hc : 0 ≤ c ∧ c ≤ 1) : wrap64 (-1 + c) = -1 + c := by unfold wrap64; omega
theorem kn_w2 (q : Int) (hq : 0 ≤ q ∧ q ≤ 65536) : wrap64 (q - 1) = q - 1 := by unfold wrap64; omega
theorem kn_back_alg (Z c PN V P A q : Int) (h : Z + c * PN - V * P = A - (q + 1) * V * P) : Z + PN * c = A - q * V * P := by
  rw [Int.add_mul q 1 V, Int.one_mul, Int.add_mul (q * V) V P] at h
  rw [Int.mul_comm PN c]
  omega
/-- What is left when the guessed multiple is taken off, and set right. -/
theorem kn_fix (by_ : Int) (v u out : List Int) (n j : Nat) (hn : v.length = n) (hn2 : 1 ≤ n ∧ n ≤ 300) (dv : MN.DOk v) (du : MN.DOk u) (hj : j + n < u.length) (lu : u.length ≤ 1000) (ho : j < out.length) (hU : MN.val (u.drop j) < MN.pw (n + 1)) (q q' : Int) (hq : 0 ≤ q ∧ q ≤ 65535) (h0 : q * MN.val v ≤ MN.val (u.drop j)) (h1 : MN.val (u.drop j) < (q + 1) * MN.val v) (hq' : q ≤ q' ∧ q' ≤ q + 1) (k : Nat) (hk : 1000 ≤ k) :
    ∃ z k', z.length = u.length ∧ MN.DOk z ∧ MN.val z = MN.val u - q * MN.val v * MN.pw j ∧ MN.val (z.drop j) < MN.val v ∧ k ≤ k' + 700 ∧ impl_natDiv.j5 k by_ v u (n : Int) out (j : Int) q' = impl_natDiv.l2 k' by_ v z (n : Int) (out.set j q) (wrap64 ((j : Int) - 1)) := by
  obtain ⟨k, rfl⟩ : ∃ x, k = x + 1 := ⟨k - 1, by omega⟩
  have hjl : j ≤ u.length := by omega
  have b1 : j + n ≤ 1048576 := by omega
  have c1 : ((j + n : Nat) : Int) < (u.length : Int) := by omega
  have c2 : (j : Int) < (out.length : Int) := by omega
  have ji : (j : Int) + (n : Int) = ((j + n : Nat) : Int) := by omega
  have V1 : MN.val v < MN.pw n := by rw [← hn]; exact MN.val_lt dv
  have hq3 : 0 ≤ q' ∧ q' ≤ 65536 := by omega
  have uz : ∀ m, j + n < m → u.getD m 0 = 0 := fun m hm => by
    have := high_zero (du.drop j) (n + 1) (m - j) hU (by omega)
    rw [getD_drop', show j + (m - j) = m by omega] at this
    exact this
  obtain ⟨g1, g2, g3, g4, g5⟩ := kn_rng (MN.val (u.take j)) (MN.pw j) (MN.val (u.drop j)) q (MN.val v) (MN.pw n) (dok_low du j) h0 h1 (Int.le_of_lt V1)
  rw [← val_td u j hjl] at g1 g2 g4 g5
  rw [← MN.pw_add] at g3 g4
  obtain ⟨u1, b, k1, a1, a2, a3, a4, a5, a6, a7⟩ := kn_ms_l by_ v out n j q' hn hn2.2 dv hq3 u.length hj lu n k 0 u 0 (Nat.zero_add _) rfl du ⟨Int.le_refl _, by decide⟩ (by omega)
  have t0 := a4 (j + n) (Nat.le_refl _)
  have ru := du.getD (j + n)
  obtain ⟨t, ht⟩ : ∃ t, t = u.getD (j + n) 0 - b := ⟨_, rfl⟩
  obtain ⟨y, hy⟩ : ∃ y, y = u1.set (j + n) t := ⟨_, rfl⟩
  have ly : y.length = u.length := by rw [hy, List.length_set, a1]
  have yt : y.getD (j + n) 0 = t := by rw [hy, getD_set_eq _ _ _ (by omega)]
  have yo : ∀ m, m ≠ j + n → 0 ≤ y.getD m 0 ∧ y.getD m 0 < 65536 := fun m hm => by rw [hy, getD_set_ne _ _ _ _ (Ne.symm hm)]; exact a2.getD m
  have yz : ∀ m, j + n < m → y.getD m 0 = 0 := fun m hm => by rw [hy, getD_set_ne _ _ _ _ (Nat.ne_of_lt hm), a4 m (Nat.le_of_lt hm)]; exact uz m hm
  have yv : MN.val y = MN.val u - q' * MN.val v * MN.pw j := by
    rw [hy, set_digit u1 (j + n) t (by omega), t0, ht, Int.mul_sub, Int.mul_comm (MN.pw (j + n)) b]
    rw [List.take_zero, show MN.val [] = 0 from rfl, Int.mul_zero, Int.zero_mul, Int.zero_mul, Int.add_zero, Int.sub_zero] at a5
    clear g1 g2 g3 g4 g5 h0 h1 hU V1
    omega
  have ys := val_split y (j + n) (by omega) yz
  rw [yt] at ys
  have yl : 0 ≤ MN.val (y.take (j + n)) ∧ MN.val (y.take (j + n)) < MN.pw (j + n) := ⟨MN.val_nonneg (low_dok yo), MN.Can.lt_of_len (low_dok yo) (by rw [List.length_take]; omega)⟩
  have w1 : wrap64 (u1.getD (j + n) 0 - b) = t := by rw [t0, ht]; exact kn_w0 _ _ ru a3
  have head : impl_natDiv.j5 (k + 1) by_ v u (n : Int) out (j : Int) q' = impl_natDiv.l4 k1 by_ v u1 (n : Int) out (j : Int) q' b v (n : Int) (n : Int) := by
    rw [impl_natDiv.j5, hn]; exact a7
  obtain ⟨k1, rfl⟩ : ∃ x, k1 = x + 1 := ⟨k1 - 1, by omega⟩
  have l4e : impl_natDiv.l4 (k1 + 1) by_ v u1 (n : Int) out (j : Int) q' b v (n : Int) (n : Int) = (if t < 0 then impl_natDiv.l5 k1 by_ v y (n : Int) out (j : Int) (wrap64 (q' - 1)) 0 v (n : Int) 0 else impl_natDiv.l2 k1 by_ v y (n : Int) (out.set j q') (wrap64 ((j : Int) - 1))) := by
    rw [impl_natDiv.l4, if_neg (Int.lt_irrefl _), ji, w64n _ b1, if_pos (Int.natCast_nonneg _), if_pos (by rw [a1]; exact c1), Option.bind_some, e_rd0 u1 (j + n), w1, Int.toNat_natCast, ← hy, e_rd0, yt, if_pos (Int.natCast_nonneg _), if_pos c2, Int.toNat_natCast, hn]
  rcases Int.lt_or_le q q' with c | c
  · -- one too many
    have eq : q' = q + 1 := by omega
    rw [eq] at yv
    have tm : t = -1 := digit_of _ _ _ _ 0 yl ys (-1) (by rw [yv, Int.mul_neg, Int.mul_one]; exact g4) (by rw [yv, show (-1 : Int) + 1 = 0 from rfl, Int.mul_zero]; exact g5)
    obtain ⟨u2, cc, k2, d1, d2, d3, d4, d5, d6, d7⟩ := kn_ab_l by_ v out n j (wrap64 (q' - 1)) hn hn2.2 dv u.length hj lu n k1 0 y 0 (Nat.zero_add _) ly yo ⟨Int.le_refl _, by decide⟩ (by omega)
    obtain ⟨k2, rfl⟩ : ∃ x, k2 = x + 1 := ⟨k2 - 1, by omega⟩
    have u2t := d4 (j + n) (Nat.le_refl _)
    rw [yt, tm] at u2t
    have u2z : ∀ m, j + n < m → u2.getD m 0 = 0 := fun m hm => by rw [d4 m (Nat.le_of_lt hm)]; exact yz m hm
    obtain ⟨z, hz⟩ : ∃ z, z = u2.set (j + n) (-1 + cc) := ⟨_, rfl⟩
    have lz : z.length = u.length := by rw [hz, List.length_set, d1]
    have zt : z.getD (j + n) 0 = -1 + cc := by rw [hz, getD_set_eq _ _ _ (by omega)]
    have zo : ∀ m, m ≠ j + n → 0 ≤ z.getD m 0 ∧ z.getD m 0 < 65536 := fun m hm => by rw [hz, getD_set_ne _ _ _ _ (Ne.symm hm)]; exact d2 m hm
    have zz : ∀ m, j + n < m → z.getD m 0 = 0 := fun m hm => by rw [hz, getD_set_ne _ _ _ _ (Nat.ne_of_lt hm)]; exact u2z m hm
    have zv : MN.val z = MN.val u - q * MN.val v * MN.pw j := by
      rw [List.take_zero, show MN.val [] = 0 from rfl, Int.zero_mul, Int.zero_mul, Int.add_zero, Int.sub_zero, yv] at d5
      have h3 := kn_back_alg _ _ _ _ _ _ _ d5
      rw [hz, set_digit u2 (j + n) _ (by omega), u2t, Int.mul_add]
      clear d5 yv ys g1 g2 g3 g4 g5 h0 h1 hU V1
      omega
    have zs := val_split z (j + n) (by omega) zz
    rw [zt] at zs
    have zl : 0 ≤ MN.val (z.take (j + n)) ∧ MN.val (z.take (j + n)) < MN.pw (j + n) := ⟨MN.val_nonneg (low_dok zo), MN.Can.lt_of_len (low_dok zo) (by rw [List.length_take]; omega)⟩
    have tz : -1 + cc = 0 := digit_of _ _ _ _ 0 zl zs 0 (by rw [zv, Int.mul_zero]; exact g1) (by rw [zv, Int.zero_add, Int.mul_one]; exact Int.lt_of_lt_of_le g2 g3)
    have dz := dok_at (j + n) zo (by rw [zt]; exact tz)
    refine ⟨z, k2, lz, dz, zv, below_of z j _ (by omega) dz (by rw [zv]; exact g2), by omega, ?_⟩
    have w2 : wrap64 (q' - 1) = q := by rw [kn_w2 q' hq3, eq]; exact Int.add_sub_cancel ..
    rw [head, l4e, if_pos (by rw [tm]; decide)]
    refine Eq.trans d7 ?_
    rw [impl_natDiv.l5, if_neg (Int.lt_irrefl _), ji, w64n _ b1, if_pos (Int.natCast_nonneg _), if_pos (by rw [d1]; exact c1), if_pos (Int.natCast_nonneg _), if_pos c2, e_rd0 u2 (j + n), u2t, kn_w1 cc d3, Int.toNat_natCast, ← hz, Int.toNat_natCast, w2]
  · have eq : q' = q := by omega
    rw [eq] at yv
    have tm : t = 0 := digit_of _ _ _ _ 0 yl ys 0 (by rw [yv, Int.mul_zero]; exact g1) (by rw [yv, Int.zero_add, Int.mul_one]; exact Int.lt_of_lt_of_le g2 g3)
    have dy := dok_at (j + n) yo (by rw [yt]; exact tm)
    refine ⟨y, k1, ly, dy, yv, below_of y j _ (by omega) dy (by rw [yv]; exact g2), by omega, ?_⟩
    rw [head, l4e, if_neg (by rw [tm]; decide), eq]
theorem kn_T0 (u0 u1 : Int) (h0 : 0 ≤ u0 ∧ u0 < 65536) (h1 : 0 ≤ u1 ∧ u1 < 65536) : wrap64 (u0 * 65536) = u0 * 65536 ∧ 0 ≤ u0 * 65536 + u1 ∧ u0 * 65536 + u1 ≤ 4294967295 := by
  refine ⟨?_, by omega, by omega⟩
  unfold wrap64; omega
theorem kn_Tq (T v1 : Int) (hT : 0 ≤ T ∧ T ≤ 4294967295) (hv : 32768 ≤ v1 ∧ v1 ≤ 65535) : Int.tdiv T v1 = T / v1 ∧ Int.tmod T v1 = T % v1 ∧ wrap64 (T / v1) = T / v1 ∧ 0 ≤ T / v1 ∧ T / v1 * v1 + T % v1 = T ∧ 0 ≤ T % v1 ∧ T % v1 < v1 := by
  have a := Int.ediv_nonneg hT.1 (show 0 ≤ v1 by omega)
  have b := Int.ediv_le_self v1 hT.1
  refine ⟨Int.tdiv_eq_ediv_of_nonneg hT.1, Int.tmod_eq_emod_of_nonneg hT.1, ?_, a, ?_, Int.emod_nonneg _ (by omega), Int.emod_lt_of_pos _ (by omega)⟩
  · generalize T / v1 = z at *
    unfold wrap64; omega
  · rw [Int.mul_comm]; exact Int.mul_ediv_add_emod ..
/-- One digit of the quotient. -/
theorem kn_step (by_ : Int) (v u out : List Int) (n j : Nat) (hn : v.length = n) (hn2 : 2 ≤ n ∧ n ≤ 300) (dv : MN.DOk v) (du : MN.DOk u) (hv1 : 32768 ≤ v.getD (n - 1) 0) (hj : j + n < u.length) (lu : u.length ≤ 1000) (ho : j < out.length) (hlt : MN.val (u.drop (j + 1)) < MN.val v) (k : Nat) (hk : 1100 ≤ k) :
    ∃ q z k', (0 ≤ q ∧ q ≤ 65535) ∧ z.length = u.length ∧ MN.DOk z ∧ MN.val z = MN.val u - q * MN.val v * MN.pw j ∧ MN.val (z.drop j) < MN.val v ∧ k ≤ k' + 800 ∧ impl_natDiv.l2 k by_ v u (n : Int) out (j : Int) = impl_natDiv.l2 k' by_ v z (n : Int) (out.set j q) (wrap64 ((j : Int) - 1)) := by
  obtain ⟨k, rfl⟩ : ∃ x, k = x + 1 := ⟨k - 1, by omega⟩
  have V1 : MN.val v < MN.pw n := by rw [← hn]; exact MN.val_lt dv
  have U0 := MN.val_nonneg (du.drop j)
  have W0 := MN.val_nonneg (du.drop (j + 1))
  have ruj := du.getD j
  have hUd := drop_val u j (by omega)
  have hU6 : MN.val (u.drop j) < 65536 * MN.val v := by omega
  have hU : MN.val (u.drop j) < MN.pw (n + 1) := by rw [MN.pw_succ]; omega
  have Vp : 0 < MN.val v := by omega
  have r1 := dv.getD (n - 1)
  have r2 := dv.getD (n - 2)
  have q0 := du.getD (j + n)
  have q1 := du.getD (j + n - 1)
  have q2 := du.getD (j + n - 2)
  -- the window
  have hw : MN.val (u.drop j) = wn u j n := (take_all (du.drop j) (n + 1) hU).symm
  have hs := wn_split u j n hn2.1
  rw [← hw] at hs
  have hV := val_split2 v n hn2.1 hn
  have pP := MN.pw_pos (n - 2)
  have lv := dok_low dv (n - 2)
  have lw := dok_low (du.drop j) (n - 2)
  have top := kn_top _ _ (v.getD (n - 1) 0) (v.getD (n - 2) 0) (u.getD (j + n) 0) (u.getD (j + n - 1) 0) (u.getD (j + n - 2) 0) (MN.pw (n - 2)) (MN.val v) (MN.val (u.drop j)) pP hV hs lv.2 lw.1 q1.1 q2.1 (Int.le_of_lt_add_one r2.2) hU6
  obtain ⟨T, hT⟩ : ∃ T, T = u.getD (j + n) 0 * 65536 + u.getD (j + n - 1) 0 := ⟨_, rfl⟩
  have hT' : T = u.getD (j + n - 1) 0 + 65536 * u.getD (j + n) 0 := by rw [hT, Int.mul_comm, Int.add_comm]
  rw [← hT'] at hs
  have hTm := kn_T T _ _ _ hT' top (Int.le_of_lt_add_one q1.2)
  obtain ⟨t1, t2, t3⟩ := kn_T0 _ _ q0 q1
  rw [← hT] at t2 t3
  obtain ⟨s1, s2, s3, s4, s5, s6, s7⟩ := kn_Tq T (v.getD (n - 1) 0) ⟨t2, t3⟩ ⟨hv1, Int.le_of_lt_add_one r1.2⟩
  -- the true digit
  obtain ⟨q, hq⟩ : ∃ q, q = MN.val (u.drop j) / MN.val v := ⟨_, rfl⟩
  have e0 : 0 ≤ q := by rw [hq]; exact Int.ediv_nonneg U0 (Int.le_of_lt Vp)
  have e1 : q * MN.val v ≤ MN.val (u.drop j) := by rw [hq]; exact Int.ediv_mul_le _ (Int.ne_of_gt Vp)
  have e2 : MN.val (u.drop j) < (q + 1) * MN.val v := by rw [hq]; exact Int.lt_ediv_add_one_mul_self _ Vp
  have e3 : q ≤ 65535 := by
    have : q < 65536 := by rw [hq]; exact Int.ediv_lt_of_lt_mul Vp hU6
    omega
  have hA : ∀ qh rh, qh * v.getD (n - 1) 0 + rh = T → q ≤ qh → qh * v.getD (n - 2) 0 > rh * 65536 + u.getD (j + n - 2) 0 → q ≤ qh - 1 := fun qh rh h hle hgt => kn_A q qh rh _ _ _ _ _ T _ _ _ pP hV hs lv.1 lw.2 Vp e0 e1 h hle hgt
  have hB : ∀ qh rh, qh * v.getD (n - 1) 0 + rh = T → qh ≤ 65535 → qh * v.getD (n - 2) 0 ≤ rh * 65536 + u.getD (j + n - 2) 0 → qh ≤ q + 1 := fun qh rh h hb hle => kn_B q qh rh _ _ _ _ _ T _ _ _ pP hV hs lv lw.1 (Int.le_trans (by decide) hv1) r2.1 e0 e2 h hb hle
  have hqT : q ≤ T / v.getD (n - 1) 0 := by
    have h1 : q * v.getD (n - 1) 0 ≤ T := by
      rcases Int.lt_or_le T (q * v.getD (n - 1) 0) with c | c
      · exfalso
        have h2 : q * MN.val v = q * MN.val (v.take (n - 2)) + MN.pw (n - 2) * (q * v.getD (n - 2) 0 + 65536 * (q * v.getD (n - 1) 0)) := by rw [hV]; grind
        have h3 := Int.mul_nonneg e0 lv.1
        have h4 := Int.mul_nonneg e0 r2.1
        have h5 : MN.pw (n - 2) * (u.getD (j + n - 2) 0 + 65536 * T + 1) ≤ MN.pw (n - 2) * (q * v.getD (n - 2) 0 + 65536 * (q * v.getD (n - 1) 0)) := Int.mul_le_mul_of_nonneg_left (by omega) (Int.le_of_lt pP)
        rw [Int.mul_add _ _ 1, Int.mul_one] at h5
        have h6 := lw.2
        clear hw hU hU6 hUd V1 hA hB e2 hq hV
        omega
      · exact c
    exact Int.le_ediv_of_mul_le (Int.lt_of_lt_of_le (by decide) hv1) h1
  obtain ⟨q', p1, p2, k1, p3, p4⟩ := kn_corr by_ v u out n j hn hn2 hj lu dv du T q ⟨e0, e3⟩ hv1 hTm hA hB 2 k (T / v.getD (n - 1) 0) (T % v.getD (n - 1) 0) s5 hqT ⟨s6, by omega⟩ (by omega) (by omega)
  obtain ⟨z, k2, z1, z2, z3, z4, z5, z6⟩ := kn_fix by_ v u out n j hn ⟨by omega, hn2.2⟩ dv du hj lu ho hU q q' ⟨e0, e3⟩ e1 e2 ⟨p1, p2⟩ k1 (by omega)
  have c1 : ((j + n : Nat) : Int) < (u.length : Int) := by omega
  have c2 : ((j + n - 1 : Nat) : Int) < (u.length : Int) := by omega
  have c3 : ((n - 1 : Nat) : Int) < (v.length : Int) := by omega
  have c4 : ¬ v.getD (n - 1) 0 = 0 := by omega
  have n2 : (n : Int) - 1 = ((n - 1 : Nat) : Int) ∧ (j : Int) + (n : Int) = ((j + n : Nat) : Int) ∧ ((j + n : Nat) : Int) - 1 = ((j + n - 1 : Nat) : Int) := by omega
  have b1 : n - 1 ≤ 1048576 ∧ j + n ≤ 1048576 ∧ j + n - 1 ≤ 1048576 := by omega
  refine ⟨q, z, k2, ⟨e0, e3⟩, z1, z2, z3, z4, by omega, ?_⟩
  rw [impl_natDiv.l2, if_pos (show (j : Int) ≥ 0 from Int.natCast_nonneg _), n2.2.1, w64n _ b1.2.1, if_pos (Int.natCast_nonneg _), if_pos c1, n2.2.2, w64n _ b1.2.2, if_pos (Int.natCast_nonneg _), if_pos c2, n2.1, w64n _ b1.1, if_pos (Int.natCast_nonneg _), if_pos c3, e_rd0, if_neg c4, e_rd0, e_rd0, t1, i64_or16 _ _ q0 q1, ← hT, s1, s2, s3]
  exact p4.trans z6
theorem kl_alg (A B Q V q P u z : Int) (hz : z = u - q * V * P) (h : (B + P * q) * V + z = A) : B * V + u = A := by
  subst hz
  rw [← h]
  grind
/-- All digits of the quotient, from the topmost down. -/
theorem kn_loop (by_ : Int) (v : List Int) (n : Nat) (hn : v.length = n) (hn2 : 2 ≤ n ∧ n ≤ 300) (dv : MN.DOk v) (hv1 : 32768 ≤ v.getD (n - 1) 0) : ∀ (m k : Nat) (u out : List Int), m + n ≤ u.length → u.length ≤ 1000 → m ≤ out.length → out.length ≤ 1000 → MN.DOk u → MN.DOk out → (∀ i, i < m → out.getD i 0 = 0) → MN.val (u.drop m) < MN.val v → 800 * m + 10000 ≤ k →
    ∃ Q R k', MN.DOk Q ∧ Q.length = out.length ∧ MN.DOk R ∧ R.length = u.length ∧ MN.val Q * MN.val v + MN.val R = MN.val out * MN.val v + MN.val u ∧ MN.val R < MN.val v ∧ 6000 ≤ k' ∧ impl_natDiv.l2 k by_ v u (n : Int) out ((m : Int) - 1) = (impl_natShift.f k' (MN.trimD R) (wrap64 (-by_))).bind fun t => some (MN.trimD Q, t) := by
  intro m
  induction m with
  | zero =>
    intro k u out h1 lu h2 lo du do_ hz hr hk
    obtain ⟨k, rfl⟩ : ∃ x, k = x + 1 := ⟨k - 1, by omega⟩
    refine ⟨out, u, k, do_, rfl, du, rfl, rfl, by simpa using hr, by omega, ?_⟩
    rw [impl_natDiv.l2, if_neg (by omega), e_iTrim k out (by omega) (by omega), Option.bind_some, e_iTrim k u (by omega) (by omega), Option.bind_some]
  | succ m ih =>
    intro k u out h1 lu h2 lo du do_ hz hr hk
    obtain ⟨q, z, k1, a1, a2, a3, a4, a5, a6, a7⟩ := kn_step by_ v u out n m hn hn2 dv du hv1 (by omega) lu (by omega) hr k (by omega)
    have e : (((m + 1 : Nat) : Int) - 1) = (m : Int) := by omega
    have w : wrap64 ((m : Int) - 1) = (m : Int) - 1 := by clear hr a4 a5; unfold wrap64; omega
    have do2 := do_.set m a1.1 (x := q) (by clear w hr a4 a5; omega)
    have o0 := hz m (Nat.lt_succ_self m)
    have k3 : 800 * m + 10000 ≤ k1 := by clear w hr a4 a5; omega
    have l1 : m + n ≤ z.length := by clear w hr a4 a5; omega
    have l2 : z.length ≤ 1000 := by clear w hr a4 a5; omega
    have l3 : m ≤ (out.set m q).length := by rw [List.length_set]; clear w hr a4 a5; omega
    have l4 : (out.set m q).length ≤ 1000 := by rw [List.length_set]; exact lo
    have l5 : m < out.length := by clear w hr a4 a5; omega
    obtain ⟨Q, R, k', b1, b2, b3, b4, b5, b6, b7, b8⟩ := ih k1 z (out.set m q) l1 l2 l3 l4 a3 do2 (fun i hi => by rw [getD_set_ne _ _ _ _ (Nat.ne_of_gt hi)]; exact hz i (Nat.lt_succ_of_lt hi)) a5 k3
    refine ⟨Q, R, k', b1, by rw [b2, List.length_set], b3, by rw [b4, a2], ?_, b6, b7, ?_⟩
    · rw [b5, set_digit out m q l5, o0, Int.mul_zero, Int.sub_zero]
      exact (kl_alg _ _ 0 _ _ _ _ _ a4 rfl).symm
    · rw [e, a7, w]; exact b8
theorem kn_norm (t : Nat) (h : 1 ≤ t ∧ t < 65536) : ∃ s : Nat, s ≤ 15 ∧ (16 : Int) - (Lib.bitLen t : Int) = (s : Int) ∧ 32768 ≤ t * 2 ^ s ∧ (t + 1) * 2 ^ s ≤ 65536 := by
  have hb := bm_len 64 t (by omega) (by omega)
  have hl : Lib.bitLen t ≤ 16 := Lib.bitLen_le t 16 (by omega) (by omega)
  have e : Lib.bitLen t = Lib.bitLenAux 64 t := rfl
  rw [← e] at hb
  obtain ⟨L, hL⟩ : ∃ L, L = Lib.bitLen t := ⟨_, rfl⟩
  rw [← hL] at hb hl
  have h1 : 1 ≤ L := by
    rcases Nat.eq_zero_or_pos L with c | c
    · rw [c] at hb; omega
    · exact c
  have hp : 2 ^ L * 2 ^ (16 - L) = 65536 := by rw [← Nat.pow_add, show L + (16 - L) = 16 by omega]
  refine ⟨16 - L, by omega, by rw [← hL]; omega, ?_, ?_⟩
  · have := Nat.mul_le_mul_right (2 ^ (16 - L)) hb.1
    rw [hp, Nat.mul_assoc] at this
    omega
  · have := Nat.mul_le_mul_right (2 ^ (16 - L)) (show t + 1 ≤ 2 ^ L by omega)
    rw [hp] at this
    exact this
/-- The leading digit of the divisor, brought up. -/
theorem kn_lead (b Y : List Int) (s nb : Nat) (cb : MN.Can b) (cY : MN.Can Y) (lb : b.length = nb + 1) (hY : MN.val Y = MN.val b * ((2 ^ s : Nat) : Int)) (h1 : 32768 ≤ b.getD nb 0 * ((2 ^ s : Nat) : Int)) (h2 : (b.getD nb 0 + 1) * ((2 ^ s : Nat) : Int) ≤ 65536) : Y.length = nb + 1 ∧ 32768 ≤ Y.getD nb 0 := by
  have P0 := MN.pw_pos nb
  have S0 : (0 : Int) ≤ ((2 ^ s : Nat) : Int) := Int.natCast_nonneg _
  have hb := take_val' b nb
  rw [← lb, List.take_length] at hb
  have lo := dok_low cb.1 nb
  -- val b lies between its leading digit's hundreds
  have B1 : b.getD nb 0 * ((2 ^ s : Nat) : Int) * MN.pw nb ≤ MN.val Y := by
    rw [hY, hb]
    have : (MN.val (b.take nb) + MN.pw nb * b.getD nb 0) * ((2 ^ s : Nat) : Int) = MN.val (b.take nb) * ((2 ^ s : Nat) : Int) + b.getD nb 0 * ((2 ^ s : Nat) : Int) * MN.pw nb := by grind
    rw [this]
    have := Int.mul_nonneg lo.1 S0
    omega
  have B2 : MN.val Y ≤ (b.getD nb 0 + 1) * ((2 ^ s : Nat) : Int) * MN.pw nb := by
    rw [hY, hb]
    have e : (b.getD nb 0 + 1) * ((2 ^ s : Nat) : Int) * MN.pw nb = (MN.pw nb + MN.pw nb * b.getD nb 0) * ((2 ^ s : Nat) : Int) := by grind
    rw [e]
    exact Int.mul_le_mul_of_nonneg_right (by omega) S0
  have B3 : 32768 * MN.pw nb ≤ MN.val Y := Int.le_trans (Int.mul_le_mul_of_nonneg_right h1 (Int.le_of_lt P0)) B1
  have B4 : MN.val Y ≤ 65536 * MN.pw nb := Int.le_trans B2 (Int.mul_le_mul_of_nonneg_right h2 (Int.le_of_lt P0))
  have B5 : MN.val Y < 65536 * MN.pw nb := by
    rcases Int.lt_or_le (MN.val Y) (65536 * MN.pw nb) with c | c
    · exact c
    · exfalso
      have S1 : (1 : Int) ≤ ((2 ^ s : Nat) : Int) := by have := Nat.two_pow_pos s; omega
      have : MN.val b * ((2 ^ s : Nat) : Int) + ((2 ^ s : Nat) : Int) ≤ (b.getD nb 0 + 1) * ((2 ^ s : Nat) : Int) * MN.pw nb := by
        have e : (b.getD nb 0 + 1) * ((2 ^ s : Nat) : Int) * MN.pw nb = (MN.pw nb + MN.pw nb * b.getD nb 0) * ((2 ^ s : Nat) : Int) := by grind
        have e2 : MN.val b * ((2 ^ s : Nat) : Int) + ((2 ^ s : Nat) : Int) = (MN.val b + 1) * ((2 ^ s : Nat) : Int) := by grind
        rw [e, e2, hb]
        exact Int.mul_le_mul_of_nonneg_right (by omega) S0
      have h3 := Int.mul_le_mul_of_nonneg_right h2 (Int.le_of_lt P0)
      rw [← hY] at this
      omega
  have l1 : Y.length ≤ nb + 1 := cY.len_le (by rw [MN.pw_succ]; exact B5)
  have l2 : nb + 1 ≤ Y.length := by
    rcases Nat.lt_or_ge Y.length (nb + 1) with c | c
    · exfalso
      have h3 := MN.Can.lt_of_len cY.1 (show Y.length ≤ nb by omega)
      have h4 := Int.mul_le_mul_of_nonneg_right (show (1 : Int) ≤ 32768 by decide) (Int.le_of_lt P0)
      rw [Int.one_mul] at h4
      omega
    · exact c
  have l3 : Y.length = nb + 1 := by omega
  refine ⟨l3, ?_⟩
  have hy := take_val' Y nb
  rw [← l3, List.take_length] at hy
  have ly := dok_low cY.1 nb
  rcases Int.lt_or_le (Y.getD nb 0) 32768 with c | c
  · exfalso
    have := Int.mul_le_mul_of_nonneg_left (show Y.getD nb 0 + 1 ≤ 32768 by omega) (Int.le_of_lt P0)
    rw [Int.mul_add, Int.mul_one, Int.mul_comm (MN.pw nb) 32768] at this
    omega
  · exact c
theorem app_zero (X : List Int) (M n : Nat) (hX : MN.DOk X) (h : M + n = X.length + 1) (hn : 1 ≤ n) : MN.val ((X ++ [0]).drop M) < MN.pw (n - 1) := by
  rw [List.drop_append_of_le_length (by omega), MN.val_append]
  simp only [MN.val, Int.mul_zero, Int.add_zero]
  exact MN.Can.lt_of_len (hX.drop M) (by rw [List.length_drop]; omega)
theorem kn_exact (A B Q V R T : Int) (hT : 0 < T) (h : Q * (B * T) + R = A * T) (h2 : R < B * T) (h3 : 0 ≤ R) : A = Q * B + R / T ∧ R / T < B ∧ R = (R / T) * T := by
  have e : R = (A - Q * B) * T := by grind
  have e2 : R / T = A - Q * B := by rw [e]; exact Int.mul_ediv_cancel _ (by omega)
  refine ⟨by omega, ?_, by rw [e2]; exact e⟩
  rw [e2]
  rw [e] at h2
  exact Int.lt_of_mul_lt_mul_right h2 (by omega)
/-- The rest, brought down again. -/
theorem kn_last (k : Nat) (R : List Int) (s : Nat) (cR : MN.Can R) (lR : R.length ≤ 300) (hs : s ≤ 15) (hk : 5000 ≤ k) : ∃ y, impl_natShift.f k R (wrap64 (-(s : Int))) = some y ∧ MN.Can y ∧ MN.val y = MN.val R / ((2 ^ s : Nat) : Int) := by
  have w : wrap64 (-(s : Int)) = -(s : Int) := by unfold wrap64; omega
  rw [w]
  clear w
  rcases Nat.eq_zero_or_pos s with c | c
  · subst c
    obtain ⟨y, h1, h2, h3⟩ := kn_up k R 0 cR.1 lR (by omega) hk
    exact ⟨y, h1, h2, by rw [h3]; simp⟩
  · exact kn_down k R s cR.1 lR ⟨c, hs⟩ hk
theorem e_iDiv (k : Nat) (a b : List Int) (ca : MN.Can a) (cb : MN.Can b) (la : a.length ≤ 150) (lb : b.length ≤ 150) (hb : 0 < MN.val b) (hk : 1000000 ≤ k) : ∃ q r, MN.Can q ∧ MN.Can r ∧ MN.val a = MN.val q * MN.val b + MN.val r ∧ MN.val r < MN.val b ∧ impl_natDiv.f k a b = some (q, r) := by
  have a0 := MN.val_nonneg ca.1
  have bne : 1 ≤ b.length := by
    rcases b with _ | ⟨x, y⟩
    · simp [MN.val] at hb
    · simp
  unfold impl_natDiv.f
  rw [(e_sg a b ca cb (by omega) (by omega) k (by omega)).2, Option.bind_some]
  by_cases c0 : MN.val a < MN.val b
  · refine ⟨[], a, MN.Can.nil, ca, by simp [MN.val], c0, ?_⟩
    rw [if_pos (show sg (MN.val a) (MN.val b) < 0 by unfold sg; rw [if_pos c0]; decide)]
  · rw [if_neg (show ¬ sg (MN.val a) (MN.val b) < 0 by unfold sg; rw [if_neg c0]; split <;> decide)]
    by_cases c1 : b.length = 1
    · obtain ⟨b0, rfl⟩ : ∃ b0, b = [b0] := List.length_eq_one_iff.mp c1
      have hd := cb.1.head
      have vb : MN.val [b0] = b0 := by simp [MN.val]
      rw [vb] at hb
      have i2 : wrap64 ((a.length : Int) - 1) = (a.length : Int) - 1 := by clear hb vb a0 c0; unfold wrap64; omega
      obtain ⟨y, r', f1, f2, f3, f4, f5⟩ := e_iDivS_l a [b0] b0 rfl ca.1 (by omega) (by omega) a.length k (List.replicate a.length 0) 0 (Nat.le_refl _) (List.length_replicate ..) (MN.DOk.replicate _) (by omega) (by simp [MN.val]) (by omega)
      have dr : MN.DOk [r'] := MN.DOk.cons f4.1 (by omega) MN.DOk.nil
      refine ⟨MN.trimD y, MN.trimD [r'], MN.Can.trimD f3, MN.Can.trimD dr, ?_, ?_, ?_⟩
      · rw [MN.val_trimD, MN.val_trimD, vb]; simpa [MN.val] using f5
      · rw [MN.val_trimD, vb]; simpa [MN.val] using f4.2
      · rw [if_pos (by simp), if_pos (Int.natCast_nonneg _), Int.toNat_natCast, if_pos (by omega), i2]
        exact f1
    · obtain ⟨nb, hnb⟩ : ∃ nb, b.length = nb + 1 := ⟨b.length - 1, by omega⟩
      have tp := top_pos (by omega) cb hnb
      rw [Nat.add_sub_cancel] at tp
      have tb := cb.1.getD nb
      obtain ⟨t, ht⟩ : ∃ t : Nat, b.getD nb 0 = (t : Int) := ⟨(b.getD nb 0).toNat, by omega⟩
      obtain ⟨s, s1, s2, s3, s4⟩ := kn_norm t (by omega)
      obtain ⟨Y, y1, y2, y3⟩ := kn_up k b s cb.1 (by omega) s1 (by omega)
      obtain ⟨X, x1, x2, x3⟩ := kn_up k a s ca.1 (by omega) s1 (by omega)
      have S0 : (0 : Int) < ((2 ^ s : Nat) : Int) := by have := Nat.two_pow_pos s; omega
      obtain ⟨l1, l2⟩ := kn_lead b Y s nb cb y2 hnb y3 (by rw [ht, ← Int.natCast_mul]; exact Int.ofNat_le.mpr s3) (by rw [ht, show ((t : Int) + 1) = ((t + 1 : Nat) : Int) from rfl, ← Int.natCast_mul]; exact Int.ofNat_le.mpr s4)
      have Yx : MN.val Y ≤ MN.val X := by rw [y3, x3]; exact Int.mul_le_mul_of_nonneg_right (Int.not_lt.mp c0) (Int.le_of_lt S0)
      have lXY := can_len_le x2 y2 Yx
      have aX : MN.val a ≤ MN.val X := by
        rw [x3]
        have := Int.mul_le_mul_of_nonneg_left (show (1 : Int) ≤ ((2 ^ s : Nat) : Int) by omega) a0
        omega
      have lXa := can_len_le x2 ca aX
      have lX : X.length ≤ a.length + 1 := mul_len1 ca x2 ((2 ^ s : Nat) : Int) (by
        have h15 := bm_pow_le s1
        omega) x3
      obtain ⟨M, hM⟩ : ∃ M, M + (nb + 1) = X.length + 1 := ⟨X.length + 1 - (nb + 1), by omega⟩
      have Yp := y2.pos (by intro e; rw [e] at l1; simp at l1)
      rw [l1, Nat.add_sub_cancel] at Yp
      have hd := app_zero X M (nb + 1) x2.1 hM (by omega)
      rw [Nat.add_sub_cancel] at hd
      have dX : MN.DOk (X ++ [0]) := x2.1.append (MN.DOk.cons (by decide) (by decide) MN.DOk.nil)
      have lu : (X ++ [0]).length = X.length + 1 := by simp
      obtain ⟨Q, R, k', q1, q2, q3, q4, q5, q6, q7, q8⟩ := kn_loop (s : Int) Y (nb + 1) l1 ⟨by omega, by omega⟩ y2.1 (by rw [Nat.add_sub_cancel]; exact l2) M (k - 1) (X ++ [0]) (List.replicate M 0) (by omega) (by omega) (by rw [List.length_replicate]; exact Nat.le_refl _) (by rw [List.length_replicate]; omega) dX (MN.DOk.replicate _) (fun i _ => by simp [List.getD_eq_getElem?_getD, List.getElem?_replicate]; split <;> rfl) (Int.lt_of_lt_of_le hd Yp) (by omega)
      have vX : MN.val (X ++ [0]) = MN.val X := by rw [MN.val_append]; simp [MN.val]
      rw [MN.val_replicate, Int.zero_mul, Int.zero_add, vX, x3, y3] at q5
      rw [y3] at q6
      obtain ⟨e1, e2, e3⟩ := kn_exact _ _ _ 0 _ _ S0 q5 q6 (MN.val_nonneg q3)
      have lR := MN.trimD_length R
      obtain ⟨r, r1, r2, r3⟩ := kn_last k' (MN.trimD R) s (MN.Can.trimD q3) (by omega) s1 (by omega)
      rw [MN.val_trimD] at r3
      refine ⟨MN.trimD Q, r, MN.Can.trimD q1, r2, by rw [MN.val_trimD, r3]; exact e1, by rw [r3]; exact e2, ?_⟩
      have g1 : ¬ ((b.length : Int) = 1) := fun h => c1 (Int.ofNat.inj h)
      have g2 : (b.length : Int) - 1 = ((nb : Nat) : Int) := by rw [hnb, Int.natCast_succ]; exact Int.add_sub_cancel ..
      have g3 : ((nb : Nat) : Int) < (b.length : Int) := by rw [hnb]; exact Int.ofNat_lt.mpr (Nat.lt_succ_self nb)
      have g4 : nb ≤ 1048576 ∧ a.length ≤ 1048576 ∧ M ≤ 1048576 := by clear q5 q6 e1 e2 e3 r3 x3 y3 Yx aX hd Yp; omega
      have g5 : ¬ ((X.length + 1 : Nat) : Int) < ((a.length + 1 : Nat) : Int) := by clear q5 q6 e1 e2 e3 r3 x3 y3 Yx aX hd Yp; omega
      have g6 : ((X.length + 1 : Nat) : Int) - ((nb + 1 : Nat) : Int) = (M : Int) := by clear q5 q6 e1 e2 e3 r3 x3 y3 Yx aX hd Yp; omega
      have g7 : M ≤ 35184372088832 := Nat.le_trans g4.2.2 (by decide)
      have g8 : X.length < 17592186044416 := by clear q5 q6 e1 e2 e3 r3 x3 y3 Yx aX hd Yp; omega
      obtain ⟨k, rfl⟩ : ∃ x, k = x + 1 := ⟨k - 1, by clear q5 q6 e1 e2 e3 r3 x3 y3 Yx aX hd Yp; omega⟩
      have g9 : wrap64 ((M : Int) - 1) = (M : Int) - 1 := by clear q5 q6 e1 e2 e3 r3 x3 y3 Yx aX hd Yp g5 g6 s2 a0 c0 hb tp tb S0 l2 q8; unfold wrap64; omega
      have g10 : IntKind.u64.wrap (t : Int) = (t : Int) := by rw [u64w]; clear q5 q6 e1 e2 e3 r3 x3 y3 Yx aX hd Yp g5 g6 g9; omega
      have bl : bits_Len.f (t : Int) = some (Lib.bitLen t : Int) := by
        unfold bits_Len.f bits_Len64.f
        rw [if_pos ⟨Int.natCast_nonneg _, by clear q5 q6 e1 e2 e3 r3 x3 y3 Yx aX hd Yp g5 g6 g9 g10; omega⟩, Option.bind_some, Int.toNat_natCast]
      have cl : slices_Clone_int_int.f X = some X := by
        have := e_clone X (Nat.le_of_lt g8)
        unfold impl_clone_int.f at this
        exact this
      rw [if_neg g1, g2, w64n _ g4.1, if_pos (Int.natCast_nonneg _), if_pos g3, e_rd0, ht, g10, bl, Option.bind_some, s2, w64n s (Nat.le_trans s1 (by decide)), y1, Option.bind_some, x1, Option.bind_some, cl, Option.bind_some, if_pos g8, impl_natDiv.l1, lu, w64i _ g4.2.1, if_neg g5, l1, g6, w64n _ g4.2.2, if_pos (Int.natCast_nonneg _), Int.toNat_natCast, if_pos g7, g9]
      rw [Nat.add_sub_cancel] at q8
      rw [q8, r1, Option.bind_some]
def lqW2 (s : ByteArray) (mi : Bool) (a : Nat) : Int := if mi = true then -(lqv s a (run s a) : Int) else (lqv s a (run s a) : Int)
def lqW (s : ByteArray) (a : Nat) : Int := if a < s.size ∧ bt s (a : Int) = 45 then lqW2 s true (a + 1) else lqW2 s false a
def lqU (s : ByteArray) (a : Nat) : Int := if a < s.size ∧ bt s (a : Int) = 101 then lqW s (a + 1) else 0
/-- The digits, how many stand behind the point, and the power. -/
def lqD (s : ByteArray) : ByteArray := if run s 0 < s.size ∧ bt s (run s 0 : Int) = 46 then s.extract 0 (run s 0) ++ s.extract (run s 0 + 1) (run s 0 + 1 + run s (run s 0 + 1)) else s.extract 0 (run s 0)
def lqB (s : ByteArray) : Nat := if run s 0 < s.size ∧ bt s (run s 0 : Int) = 46 then run s (run s 0 + 1) else 0
def lqE (s : ByteArray) : Int := if run s 0 < s.size ∧ bt s (run s 0 : Int) = 46 then lqU s (run s 0 + 1 + run s (run s 0 + 1)) else lqU s (run s 0)
def Tl (r : ByteArray × Int × Int × Bool) (ok : Bool) (x7 : ByteArray) (x8 w : Int) : Prop := r.2.2.2 = ok ∧ (ok = true → r.1 = x7 ∧ r.2.1 = x8 ∧ r.2.2.1 = w)
theorem Tl_no {r : ByteArray × Int × Int × Bool} {ok : Bool} {x7 : ByteArray} {x8 w : Int} (h : r.2.2.2 = false) (k : ok = false) : Tl r ok x7 x8 w := ⟨h.trans k.symm, fun e => by rw [k] at e; cases e⟩
theorem t7_j6 (s x7 : ByteArray) (x8 : Int) (mi : Bool) (a k : Nat) (hs : s.size ≤ 1048576) (h1 : 1 ≤ run s a) (h3 : run s a ≤ 3) (hx : ¬ (1 < run s a ∧ bt s (a : Int) = 48)) (hy : ¬ (mi = true ∧ bt s (a : Int) = 48)) (ha : a ≤ s.size) (hk : 10 ≤ k) : ∃ p, spec_l7Parts.j6 k s x7 x8 (a : Int) 0 mi (run s a : Int) false = some p ∧ Tl p (lqP2 s mi a) x7 x8 (lqW2 s mi a) := by
  obtain ⟨k, rfl⟩ : ∃ q, k = q + 1 := ⟨k - 1, by omega⟩
  have rl := run_le s a
  have h := s7_l0 s x7 x8 mi a (run s a) hs h3 (by omega) (fun j hj => run_dig s a j hj) _ rfl (run s a) 0 k (by omega) (by omega)
  rw [spec_l7Parts.j6, if_neg (show ¬ (false = true) by decide)]
  rw [Nat.add_zero] at h
  refine (?_ : ∃ p, spec_l7Parts.l0 k s x7 x8 (a : Int) (lqv s a 0 : Int) mi (run s a : Int) (a : Int) = some p ∧ Tl p (lqP2 s mi a) x7 x8 (lqW2 s mi a))
  rw [h]
  unfold lqP2
  by_cases c : (lqv s a (run s a) : Int) > 400
  · rw [if_pos c]
    exact ⟨_, rfl, Tl_no rfl (decide_eq_false (fun g => by have := g.2.2.2.2.1; omega))⟩
  · rw [if_neg c]
    have e : ((((a + run s a : Nat) : Int) == (s.size : Int))) = decide (1 ≤ run s a ∧ run s a ≤ 3 ∧ ¬ (1 < run s a ∧ bt s (a : Int) = 48) ∧ ¬ (mi = true ∧ bt s (a : Int) = 48) ∧ lqv s a (run s a) ≤ 400 ∧ a + run s a = s.size) := by
      by_cases g : a + run s a = s.size
      · rw [decide_eq_true ⟨h1, h3, hx, hy, by omega, g⟩]; exact beq_iff_eq.mpr (by omega)
      · rw [decide_eq_false (fun q => g q.2.2.2.2.2)]; exact beq_eq_false_iff_ne.mpr (by omega)
    cases mi with
    | true =>
      have w : wrap64 (-(lqv s a (run s a) : Int)) = lqW2 s true a := by unfold lqW2; rw [if_pos rfl]; clear e h; unfold wrap64; omega
      rw [if_pos rfl]; exact ⟨_, rfl, e, fun _ => ⟨rfl, rfl, w⟩⟩
    | false => rw [if_neg (by decide)]; exact ⟨_, rfl, e, fun _ => ⟨rfl, rfl, rfl⟩⟩
theorem t7_j5 (s x7 : ByteArray) (x8 : Int) (mi : Bool) (a k : Nat) (hs : s.size ≤ 1048576) (ha : a ≤ s.size) (hk : s.size + 20 ≤ k) : ∃ p, spec_l7Parts.j5 k s x7 x8 (a : Int) 0 mi = some p ∧ Tl p (lqP2 s mi a) x7 x8 (lqW2 s mi a) := by
  obtain ⟨k, rfl⟩ : ∃ q, k = q + 1 := ⟨k - 1, by omega⟩
  obtain ⟨k', hk'⟩ : ∃ q, k = q + 1 := ⟨k - 1, by omega⟩
  have rl := run_le s a
  have bad : ∀ t : Int, ¬ (1 ≤ run s a ∧ run s a ≤ 3 ∧ ¬ (1 < run s a ∧ bt s (a : Int) = 48) ∧ ¬ (mi = true ∧ bt s (a : Int) = 48)) → ∃ p, spec_l7Parts.j6 k s x7 x8 (a : Int) 0 mi t true = some p ∧ Tl p (lqP2 s mi a) x7 x8 (lqW2 s mi a) := fun t h => by
    rw [hk', spec_l7Parts.j6, if_pos rfl]
    refine ⟨_, rfl, Tl_no rfl (decide_eq_false (fun g => h ⟨g.1, g.2.1, g.2.2.1, g.2.2.2.1⟩))⟩
  rw [spec_l7Parts.j5, s7_runf s hs a k ha (by omega), Option.bind_some]
  by_cases c0 : ((run s a : Nat) : Int) = 0
  · rw [if_pos c0]; exact bad _ (by omega)
  rw [if_neg c0]
  by_cases c3 : ((run s a : Nat) : Int) > 3
  · rw [if_pos c3]; exact bad _ (by omega)
  rw [if_neg c3]
  have p1 : (0 : Int) ≤ (a : Int) := by omega
  have p2 : (a : Int) < (s.size : Int) := by omega
  by_cases c1 : ((run s a : Nat) : Int) > 1
  · rw [if_pos c1, if_pos p1, if_pos p2]
    by_cases cb : bt s (a : Int) = 48
    · rw [if_pos cb]; exact bad _ (fun h => h.2.2.1 ⟨by omega, cb⟩)
    · rw [if_neg cb]
      have good := t7_j6 s x7 x8 mi a k hs (by omega) (by omega) (fun h => cb h.2) (fun h => cb h.2) ha (by omega)
      cases mi with
      | true => rw [if_pos rfl, beq_eq_false_iff_ne.mpr cb]; exact good
      | false => rw [if_neg (by decide)]; exact good
  · rw [if_neg c1]
    cases mi with
    | true =>
      rw [if_pos rfl, if_pos p1, if_pos p2]
      by_cases cb : bt s (a : Int) = 48
      · rw [beq_iff_eq.mpr cb]; exact bad _ (fun h => h.2.2.2 ⟨rfl, cb⟩)
      · rw [beq_eq_false_iff_ne.mpr cb]
        exact t7_j6 s x7 x8 true a k hs (by omega) (by omega) (fun h => cb h.2) (fun h => cb h.2) ha (by omega)
    | false =>
      rw [if_neg (by decide)]
      exact t7_j6 s x7 x8 false a k hs (by omega) (by omega) (by omega) (fun h => by cases h.1) ha (by omega)
theorem t7_j3 (s x7 : ByteArray) (x8 : Int) (a k : Nat) (hs : s.size ≤ 1048576) (ha : a < s.size) (hk : s.size + 22 ≤ k) : ∃ p, spec_l7Parts.j3 k s x7 x8 (a : Int) 0 true = some p ∧ Tl p (lqP s (a + 1)) x7 x8 (lqW s (a + 1)) := by
  obtain ⟨k, rfl⟩ : ∃ q, k = q + 2 := ⟨k - 2, by omega⟩
  have e1 : wrap64 ((a : Int) + 1) = ((a + 1 : Nat) : Int) := by unfold wrap64; omega
  rw [show k + 2 = (k + 1) + 1 from rfl, spec_l7Parts.j3, if_pos rfl, e1]
  unfold lqP lqW
  by_cases c : ((a + 1 : Nat) : Int) < (s.size : Int)
  · rw [if_pos c, if_pos (by omega), spec_l7Parts.j4]
    by_cases cb : bt s ((a + 1 : Nat) : Int) = 45
    · have e2 : wrap64 (((a + 1 : Nat) : Int) + 1) = ((a + 1 + 1 : Nat) : Int) := by unfold wrap64; omega
      rw [beq_iff_eq.mpr cb, if_pos rfl, e2, if_pos (show a + 1 < s.size ∧ bt s ((a + 1 : Nat) : Int) = 45 from ⟨by omega, cb⟩), if_pos (show a + 1 < s.size ∧ bt s ((a + 1 : Nat) : Int) = 45 from ⟨by omega, cb⟩)]
      exact t7_j5 s x7 x8 true (a + 1 + 1) k hs (by omega) (by omega)
    · rw [beq_eq_false_iff_ne.mpr cb, if_neg (show ¬ (false = true) by decide), if_neg (show ¬ (a + 1 < s.size ∧ bt s ((a + 1 : Nat) : Int) = 45) from fun h => cb h.2), if_neg (show ¬ (a + 1 < s.size ∧ bt s ((a + 1 : Nat) : Int) = 45) from fun h => cb h.2)]
      exact t7_j5 s x7 x8 false (a + 1) k hs (by omega) (by omega)
  · rw [if_neg c, spec_l7Parts.j4, if_neg (show ¬ (false = true) by decide), if_neg (show ¬ (a + 1 < s.size ∧ bt s ((a + 1 : Nat) : Int) = 45) by omega), if_neg (show ¬ (a + 1 < s.size ∧ bt s ((a + 1 : Nat) : Int) = 45) by omega)]
    exact t7_j5 s x7 x8 false (a + 1) k hs (by omega) (by omega)
theorem t7_j2 (s x7 : ByteArray) (x8 : Int) (a k : Nat) (hs : s.size ≤ 1048576) (ha : a ≤ s.size) (hk : s.size + 24 ≤ k) : ∃ p, spec_l7Parts.j2 k s x7 x8 (a : Int) = some p ∧ Tl p (lqT s a) x7 x8 (lqU s a) := by
  obtain ⟨k, rfl⟩ : ∃ q, k = q + 2 := ⟨k - 2, by omega⟩
  rw [show k + 2 = (k + 1) + 1 from rfl, spec_l7Parts.j2]
  have no : (∃ p, spec_l7Parts.j3 (k + 1) s x7 x8 (a : Int) 0 false = some p ∧ Tl p (decide (a = s.size)) x7 x8 0) := by
    rw [spec_l7Parts.j3, if_neg (show ¬ (false = true) by decide)]
    refine ⟨_, rfl, ?_, fun _ => ⟨rfl, rfl, rfl⟩⟩
    by_cases g : a = s.size
    · rw [decide_eq_true g]; exact beq_iff_eq.mpr (by omega)
    · rw [decide_eq_false g]; exact beq_eq_false_iff_ne.mpr (by omega)
  unfold lqT lqU
  by_cases c : (a : Int) < (s.size : Int)
  · rw [if_pos c, if_pos (by omega)]
    by_cases cb : bt s (a : Int) = 101
    · rw [beq_iff_eq.mpr cb, if_pos (show a < s.size ∧ bt s (a : Int) = 101 from ⟨by omega, cb⟩), if_pos (show a < s.size ∧ bt s (a : Int) = 101 from ⟨by omega, cb⟩)]
      exact t7_j3 s x7 x8 a (k + 1) hs (by omega) (by omega)
    · rw [beq_eq_false_iff_ne.mpr cb, if_neg (show ¬ (a < s.size ∧ bt s (a : Int) = 101) from fun h => cb h.2), if_neg (show ¬ (a < s.size ∧ bt s (a : Int) = 101) from fun h => cb h.2)]
      exact no
  · rw [if_neg c, if_neg (show ¬ (a < s.size ∧ bt s (a : Int) = 101) by omega), if_neg (show ¬ (a < s.size ∧ bt s (a : Int) = 101) by omega)]
    exact no
theorem t7_all (s : ByteArray) (hs : s.size ≤ 60) (k : Nat) (hk : s.size + 30 ≤ k) : ∃ p, spec_l7Parts.f k s = some p ∧ Tl p (lqQ s) (lqD s) (lqB s : Int) (lqE s) := by
  obtain ⟨k1, hk1⟩ : ∃ q, k = q + 1 := ⟨k - 1, by omega⟩
  obtain ⟨k2, hk2⟩ : ∃ q, k1 = q + 1 := ⟨k1 - 1, by omega⟩
  have rl := run_le s 0
  unfold spec_l7Parts.f
  rw [if_neg (by omega), show spec_l7Digits.f k s 0 = some ((run s 0 : Nat) : Int) from s7_runf s (by omega) 0 k (by omega) (by omega), Option.bind_some]
  have bad : (run s 0 = 0 ∨ (1 < run s 0 ∧ bt s 0 = 48)) → ∃ p, spec_l7Parts.j0 k s ((run s 0 : Nat) : Int) true = some p ∧ Tl p (lqQ s) (lqD s) (lqB s : Int) (lqE s) := fun h => by
    rw [hk1, spec_l7Parts.j0, if_pos rfl]
    unfold lqQ
    rw [if_pos h]
    exact ⟨_, rfl, Tl_no rfl rfl⟩
  have good : ¬ (run s 0 = 0 ∨ (1 < run s 0 ∧ bt s 0 = 48)) → ∃ p, spec_l7Parts.j0 k s ((run s 0 : Nat) : Int) false = some p ∧ Tl p (lqQ s) (lqD s) (lqB s : Int) (lqE s) := fun h => by
    rw [hk1, spec_l7Parts.j0, if_neg (show ¬ (false = true) by decide), if_pos (by omega), if_pos (by omega)]
    unfold lqQ lqD lqB lqE
    rw [if_neg h]
    have no : ∀ x7 : ByteArray, ∃ p, spec_l7Parts.j1 k1 s x7 0 ((run s 0 : Nat) : Int) false = some p ∧ Tl p (lqT s (run s 0)) x7 0 (lqU s (run s 0)) := fun x7 => by
      rw [hk2, spec_l7Parts.j1, if_neg (show ¬ (false = true) by decide)]
      exact t7_j2 s x7 0 (run s 0) k2 (by omega) (by omega) (by omega)
    by_cases c : ((run s 0 : Nat) : Int) < (s.size : Int)
    · rw [if_pos c]
      by_cases cb : bt s ((run s 0 : Nat) : Int) = 46
      · have lt : run s 0 < s.size := by omega
        have rl1 := run_le s (run s 0 + 1)
        have q1 : run s 0 + 1 ≤ s.size := lt
        have q2 : s.size < k2 := by omega
        have q3 : s.size + 24 ≤ k2 := by omega
        have f46 : run s 0 < s.size ∧ bt s (run s 0 : Int) = 46 := ⟨lt, cb⟩
        have p1 : (0 : Int) ≤ ((run s 0 + 1 : Nat) : Int) := Int.natCast_nonneg _
        have p2 : ((run s 0 + 1 : Nat) : Int) ≤ ((run s 0 + 1 + run s (run s 0 + 1) : Nat) : Int) := by omega
        have p4 : run s 0 + 1 + run s (run s 0 + 1) ≤ s.size := by omega
        have p3 : ((run s 0 + 1 + run s (run s 0 + 1) : Nat) : Int) ≤ (s.size : Int) := by omega
        have z1 := (lq_extract s 0 (run s 0) (by omega) (by omega)).1
        have z2 := (lq_extract s (run s 0 + 1) (run s 0 + 1 + run s (run s 0 + 1)) (by omega) (by omega)).1
        have z3 : (s.extract 0 (run s 0)).size + (s.extract (run s 0 + 1) (run s 0 + 1 + run s (run s 0 + 1))).size ≤ 9223372036854775807 := by rw [z1, z2]; omega
        have e1 : wrap64 (((run s 0 : Nat) : Int) + 1) = ((run s 0 + 1 : Nat) : Int) := by clear z3 z1 z2 p1 p2 p3 p4; unfold wrap64; omega
        have e2 : wrap64 (((run s 0 + 1 : Nat) : Int) + ((run s (run s 0 + 1) : Nat) : Int)) = ((run s 0 + 1 + run s (run s 0 + 1) : Nat) : Int) := by clear e1 z3 z1 z2 p1 p2 p3; unfold wrap64; omega
        rw [beq_iff_eq.mpr cb, if_pos f46, if_pos f46, if_pos f46, if_pos f46, hk2, spec_l7Parts.j1, if_pos rfl, e1, s7_runf s (by clear e1 e2; omega) (run s 0 + 1) k2 q1 q2, Option.bind_some]
        by_cases c0 : run s (run s 0 + 1) = 0
        · have c0i : ((run s (run s 0 + 1) : Nat) : Int) = 0 := by rw [c0]; rfl
          rw [if_pos c0, if_pos c0i]; exact ⟨_, rfl, Tl_no rfl rfl⟩
        · have c0i : ¬ ((run s (run s 0 + 1) : Nat) : Int) = 0 := fun h => c0 (Int.natCast_eq_zero.mp h)
          have hs' : s.size ≤ 1048576 := Nat.le_trans hs (by decide)
          rw [if_neg c0, if_neg c0i, e2, if_pos p1, if_pos p2, if_pos p3]
          simp only [Int.toNat_natCast]
          rw [if_pos z3]
          exact t7_j2 s _ _ (run s 0 + 1 + run s (run s 0 + 1)) k2 hs' p4 q3
      · rw [beq_eq_false_iff_ne.mpr cb, if_neg (show ¬ (run s 0 < s.size ∧ bt s (run s 0 : Int) = 46) from fun h => cb h.2), if_neg (show ¬ (run s 0 < s.size ∧ bt s (run s 0 : Int) = 46) from fun h => cb h.2), if_neg (show ¬ (run s 0 < s.size ∧ bt s (run s 0 : Int) = 46) from fun h => cb h.2), if_neg (show ¬ (run s 0 < s.size ∧ bt s (run s 0 : Int) = 46) from fun h => cb h.2)]
        exact no _
    · rw [if_neg c, if_neg (show ¬ (run s 0 < s.size ∧ bt s (run s 0 : Int) = 46) by omega), if_neg (show ¬ (run s 0 < s.size ∧ bt s (run s 0 : Int) = 46) by omega), if_neg (show ¬ (run s 0 < s.size ∧ bt s (run s 0 : Int) = 46) by omega), if_neg (show ¬ (run s 0 < s.size ∧ bt s (run s 0 : Int) = 46) by omega)]
      exact no _
  by_cases c0 : ((run s 0 : Nat) : Int) = 0
  · rw [if_pos c0]; exact bad (.inl (by omega))
  rw [if_neg c0]
  by_cases c1 : ((run s 0 : Nat) : Int) > 1
  · rw [if_pos c1, if_pos (by omega)]
    by_cases cb : bt s 0 = 48
    · rw [beq_iff_eq.mpr cb]; exact bad (.inr ⟨by omega, cb⟩)
    · rw [beq_eq_false_iff_ne.mpr cb]; exact good (fun h => h.elim (by omega) (fun g => cb g.2))
  · rw [if_neg c1]; exact good (by omega)
theorem ba_ext {x y : ByteArray} (h : x.size = y.size) (hb : ∀ j : Nat, j < x.size → bt x (j : Int) = bt y (j : Int)) : x = y := by
  have e : x.data.toList = y.data.toList := by
    refine List.ext_getElem? fun i => ?_
    by_cases c : i < x.size
    · obtain ⟨b, hb1, hb2⟩ := lq_at x i c
      obtain ⟨d, hd1, hd2⟩ := lq_at y i (by omega)
      have := hb i c
      rw [hb2, hd2] at this
      rw [hb1, hd1]
      exact congrArg some (UInt8.toNat.inj (by omega))
    · have lx : x.data.toList.length = x.size := Array.length_toList
      have ly : y.data.toList.length = y.size := Array.length_toList
      rw [List.getElem?_eq_none (by omega), List.getElem?_eq_none (by omega)]
  cases x with
  | mk a => cases y with
    | mk b => exact congrArg ByteArray.mk (Array.toList_inj.mp e)
theorem lq_pow2 (s pw ah be : ByteArray) (E k : Nat) (hE : E < s.size) (hk : s.size + 5 ≤ k) (hs : s.size ≤ 1048576) (z : pw.size = s.size - E - 1) (hb : ∀ j : Nat, j < s.size - E - 1 → bt pw (j : Int) = bt s ((E + 1 + j : Nat) : Int)) : ∃ p q r, impl_literal.p k ah be pw = some (p, q, r, lqP s (E + 1)) ∧ (lqP s (E + 1) = true → p = ah ∧ q = be ∧ r = lqW s (E + 1)) := by
  unfold impl_literal.p
  obtain ⟨az, ab⟩ := lq_after pw
  have hmi : SLit.minus pw = decide (E + 1 < s.size ∧ bt s ((E + 1 : Nat) : Int) = 45) := by
    rw [lq_minus]
    by_cases h : 0 < pw.size
    · have h0 := hb 0 (by omega)
      rw [Nat.add_zero] at h0
      rw [show bt pw 0 = bt s ((E + 1 : Nat) : Int) from h0]
      congr 1
      simp only [eq_iff_iff]
      constructor
      · intro ⟨_, h2⟩; exact ⟨by omega, h2⟩
      · intro ⟨_, h2⟩; exact ⟨h, h2⟩
    · rw [decide_eq_false (by omega), decide_eq_false (by omega)]
  obtain ⟨mi, hmi'⟩ : ∃ mi, mi = SLit.minus pw := ⟨_, rfl⟩
  rw [← hmi'] at hmi az ab ⊢
  obtain ⟨a, ha⟩ : ∃ a, a = E + 1 + (if mi = true then 1 else 0) := ⟨_, rfl⟩
  have hP : lqP s (E + 1) = lqP2 s mi a := by
    unfold lqP
    cases mi with
    | true =>
      have := of_decide_eq_true hmi.symm
      rw [if_pos this, ha, if_pos rfl]
    | false =>
      have := of_decide_eq_false hmi.symm
      rw [if_neg this, ha, if_neg (by decide), Nat.add_zero]
  have hW : lqW s (E + 1) = lqW2 s mi a := by
    unfold lqW
    cases mi with
    | true =>
      have := of_decide_eq_true hmi.symm
      rw [if_pos this, ha, if_pos rfl]
    | false =>
      have := of_decide_eq_false hmi.symm
      rw [if_neg this, ha, if_neg (by decide), Nat.add_zero]
  have ale : a ≤ s.size := by
    rw [ha]
    cases mi with
    | true => have := of_decide_eq_true hmi.symm; rw [if_pos rfl]; omega
    | false => rw [if_neg (by decide)]; omega
  have dz : (SLit.after pw).size = s.size - a := by rw [az, z, ha]; split <;> omega
  have db : ∀ j : Nat, j < (SLit.after pw).size → bt (SLit.after pw) (j : Int) = bt s ((a + j : Nat) : Int) := fun j hj => by
    rw [ab j hj, hb _ (by rw [dz] at hj; rw [ha] at hj; split at hj <;> (split <;> first | omega | simp_all))]
    congr 2
    rw [ha]; omega
  clear az ab hmi'
  rw [hP]
  generalize SLit.after pw = dg at dz db ⊢
  have hw := lq_wd dg (by omega) k (by omega)
  have hsr := sub_rn s dg a (by omega) db
  have rl := run_le s a
  have b0 : 0 < dg.size → bt dg 0 = bt s (a : Int) := fun h => db 0 h
  by_cases good : dg.size ≤ run s a ∧ 1 ≤ dg.size ∧ dg.size ≤ 3 ∧ (dg.size = 1 ∨ bt s (a : Int) ≠ 48)
  · obtain ⟨g1, g2, g3, g4⟩ := good
    have hr : run s a = dg.size := by omega
    have hd0 := run_dig s a 0 (by omega)
    rw [Nat.add_zero] at hd0
    have hat := lq_atoi dg g2 g3 (fun j hj => by rw [lqd_iff, db j hj]; exact run_dig s a j (by omega))
    have hv := sub_lqv s dg a db dg.size (Nat.le_refl _)
    rw [hv] at hat
    have whole : rn dg dg.size 0 = dg.size ∧ dg.size ≠ 0 ∧ (dg.size = 1 ∨ bt dg 0 ≠ 48) := ⟨hsr.mpr g1, by omega, by rw [b0 g2]; exact g4⟩
    have hz : mi = true ∧ bt s (a : Int) = 48 ↔ mi = true ∧ ((lqv s a dg.size : Nat) : Int) = 0 := by
      constructor
      · intro ⟨h1, h2⟩
        refine ⟨h1, ?_⟩
        have h3 : dg.size = 1 := by rcases g4 with h | h; exact h; exact absurd h2 h
        rw [h3]; simp only [lqv, Nat.add_zero, h2]; rfl
      · intro ⟨h1, h2⟩
        refine ⟨h1, Classical.byContradiction fun h3 => ?_⟩
        have := lqv_pos s a (by omega) dg.size g2
        omega
    rw [hat]
    simp only [hw, decide_eq_true whole, Option.bind_some]
    unfold lqP2
    rw [hr]
    by_cases q : lqv s a dg.size ≤ 400 ∧ ¬ (mi = true ∧ bt s (a : Int) = 48)
    · rw [if_pos ⟨by first | trivial | rfl, g3, by omega, by rw [← hz]; exact q.2⟩, decide_eq_true (show _ from ⟨g2, g3, by omega, q.2, q.1, by omega⟩)]
      refine ⟨_, _, _, rfl, fun _ => ⟨rfl, rfl, ?_⟩⟩
      rw [hW]
      unfold lqW2
      rw [hr]
      cases mi with
      | true =>
        rw [if_pos rfl, if_pos rfl]
        have q1 := q.1
        generalize lqv s a dg.size = y at q1 ⊢
        clear hat hv whole hz q hsr hw hmi hP hW hb db b0
        unfold wrap64; omega
      | false => rw [if_neg (by decide), if_neg (by decide)]
    · rw [if_neg (fun h => q ⟨by omega, by rw [hz]; exact h.2.2.2⟩), decide_eq_false (fun h => q ⟨h.2.2.2.2.1, h.2.2.2.1⟩)]
      exact ⟨_, _, _, rfl, fun h => by cases h⟩
  · have e : lqP2 s mi a = false := by
      unfold lqP2
      refine decide_eq_false fun h => good ⟨by omega, by omega, by omega, ?_⟩
      have h3 := h.2.2.1
      by_cases c : bt s (a : Int) = 48
      · left; have : ¬ 1 < run s a := fun h4 => h3 ⟨h4, c⟩
        omega
      · exact .inr c
    rw [e]
    cases hat : Lib.atoiAll dg.data.toList with
    | ok v =>
      simp only [hw, Option.bind_some]
      rw [if_neg (fun h => ?_)]
      · exact ⟨_, _, _, rfl, fun h => by cases h⟩
      · have h1 := of_decide_eq_true h.1
        refine good ⟨hsr.mp h1.1, by omega, h.2.1, ?_⟩
        have := h1.2.2
        rw [b0 (by omega)] at this
        exact this
    | _ => exact ⟨_, _, _, rfl, fun h => by cases h⟩
theorem lq_lit2 (s : ByteArray) (hs : s.size ≤ 1048576) (k : Nat) (hk : s.size + 5 ≤ k) : ∃ a b p, impl_literal.f k s = some (a, b, p, lqQ s) ∧ (lqQ s = true → a ++ b = lqD s ∧ b.size = lqB s ∧ p = lqE s) := by
  obtain ⟨E, ce⟩ := lq_cut 101 s
  obtain ⟨P, cp⟩ := lq_cut 46 (SLit.cutb 101 s).1
  unfold impl_literal.f
  rw [if_pos (by omega)]
  obtain ⟨le1, ne1, hit1, fl1, s11, b11, s12, b12⟩ := ce
  obtain ⟨le2, ne2, hit2, fl2, s21, b21, s22, b22⟩ := cp
  rw [s11] at le2 hit2 fl2 s22 b22
  generalize (SLit.cutb 46 (SLit.cutb 101 s).1).1 = ah at *
  generalize (SLit.cutb 46 (SLit.cutb 101 s).1).2.1 = be at *
  generalize (SLit.cutb 46 (SLit.cutb 101 s).1).2.2 = pt at *
  generalize (SLit.cutb 101 s).1 = bo at *
  generalize (SLit.cutb 101 s).2.1 = pw at *
  generalize (SLit.cutb 101 s).2.2 = hp at *
  have ne3 : ∀ j, j < P → bt s (j : Int) ≠ 46 := fun j hj => by have := ne2 j hj; rw [b11 j (by omega)] at this; exact this
  have hit3 : P < E → bt s (P : Int) = 46 := fun h => by have := hit2 h; rw [b11 P h] at this; exact this
  have a1 : ∀ j : Nat, j < ah.size → bt ah (j : Int) = bt s ((0 + j : Nat) : Int) := fun j hj => by rw [b21 j (by omega), b11 j (by omega), Nat.zero_add]
  have e1 : ∀ j : Nat, j < be.size → bt be (j : Int) = bt s ((P + 1 + j : Nat) : Int) := fun j hj => by rw [b22 j (by omega), b11 _ (by omega)]
  have hw := lq_wd ah (by omega) k (by omega)
  have hsr := sub_rn s ah 0 (by omega) a1
  have rl := run_le s 0
  have rd0 := fun j hj => run_dig s 0 j hj
  simp only [Nat.zero_add] at rd0
  have hrP : run s 0 ≤ P := Nat.le_of_not_lt fun h => by
    have hd := rd0 P h
    by_cases h1 : P < E
    · have := hit3 h1; omega
    · have := hit1 (by omega)
      rw [show E = P by omega] at this
      have h5 : ((101 : UInt8).toNat : Int) = 101 := rfl
      omega
  have h101 : ((101 : UInt8).toNat : Int) = 101 := rfl
  rw [h101] at hit1 ne1
  have ba : 0 < P → bt ah 0 = bt s 0 := fun h => (a1 0 (by omega)).trans (by rw [Nat.zero_add]; rfl)
  unfold impl_literal.q lqQ
  rw [hw, Option.bind_some]
  rw [s21] at hsr ⊢
  rw [s21] at hw
  by_cases q0 : run s 0 = 0 ∨ (1 < run s 0 ∧ bt s 0 = 48)
  · rw [if_pos q0, decide_eq_false (fun h => ?_), if_neg (show ¬ (false = true) by decide)]
    · exact ⟨_, _, _, rfl, fun h => by cases h⟩
    · obtain ⟨h1, h2, h3⟩ := h
      have h4 := hsr.mp h1
      rw [ba (by omega)] at h3
      omega
  · rw [if_neg q0]
    by_cases q1 : P = run s 0
    · rw [decide_eq_true (show _ from ⟨hsr.mpr (by omega), by omega, by rw [ba (by omega)]; omega⟩), if_pos (show true = true from rfl), ← q1]
      by_cases q2 : P < E
      · have f46 := hit3 q2
        have id := lq_idf be (by omega) k (by omega)
        have hbr := sub_rn s be (P + 1) (by omega) e1
        rw [fl2, decide_eq_true q2, if_pos (show true = true from rfl), if_pos (show P < s.size ∧ bt s (P : Int) = 46 from ⟨by omega, f46⟩), id, Option.bind_some]
        have r1 := run_le s (P + 1)
        have rd1 := fun j hj => run_dig s (P + 1) j hj
        have hr1 : P + 1 + run s (P + 1) ≤ E := Nat.le_of_not_lt fun h => by
          have hd := rd1 (E - P - 1) (by omega)
          rw [show P + 1 + (E - P - 1) = E by omega] at hd
          have := hit1 (by omega)
          omega
        by_cases q3 : run s (P + 1) = 0
        · rw [if_pos q3, decide_eq_false (fun h => by have := hbr.mp h.1; omega), if_neg (show ¬ (false = true) by decide)]
          exact ⟨_, _, _, rfl, fun h => by cases h⟩
        · rw [if_neg q3]
          by_cases q4 : P + 1 + run s (P + 1) = E
          · have hD : ah ++ be = lqD s ∧ be.size = lqB s ∧ lqE s = lqU s E := by
              have cnd : run s 0 < s.size ∧ bt s (run s 0 : Int) = 46 := by rw [← q1]; exact ⟨by omega, f46⟩
              obtain ⟨x1, x2⟩ := lq_extract s 0 P (Nat.zero_le _) (by omega)
              obtain ⟨y1, y2⟩ := lq_extract s (P + 1) (P + 1 + run s (P + 1)) (by omega) (by omega)
              unfold lqD lqB lqE
              rw [if_pos cnd, if_pos cnd, if_pos cnd, ← q1, q4]
              rw [q4] at y1 y2
              refine ⟨?_, by omega, rfl⟩
              rw [ba_ext (x := ah) (y := s.extract 0 P) (by rw [x1, s21, Nat.sub_zero]) (fun j hj => by rw [x2 j (by omega), a1 j hj]), ba_ext (x := be) (y := s.extract (P + 1) E) (by rw [y1, s22]; omega) (fun j hj => by rw [y2 j (by omega), e1 j hj])]
            rw [decide_eq_true (show _ from ⟨hbr.mpr (by omega), by omega⟩), if_pos (show true = true from rfl), q4, fl1]
            unfold lqT
            by_cases q5 : E < s.size
            · rw [decide_eq_true q5, if_pos (show true = true from rfl), if_pos (show E < s.size ∧ bt s (E : Int) = 101 from ⟨q5, hit1 q5⟩)]
              obtain ⟨p, q, r, hh, hx⟩ := lq_pow2 s pw ah be E k q5 hk hs s12 b12
              refine ⟨p, q, r, hh, fun ok => ?_⟩
              obtain ⟨rfl, rfl, rfl⟩ := hx ok
              exact ⟨hD.1, hD.2.1, by rw [hD.2.2]; unfold lqU; rw [if_pos (show E < s.size ∧ bt s (E : Int) = 101 from ⟨q5, hit1 q5⟩)]⟩
            · rw [decide_eq_false q5, if_neg (show ¬ (false = true) by decide), if_neg (show ¬ (E < s.size ∧ bt s (E : Int) = 101) from fun h => q5 h.1), decide_eq_true (show E = s.size by omega)]
              exact ⟨_, _, _, rfl, fun _ => ⟨hD.1, hD.2.1, by rw [hD.2.2]; unfold lqU; rw [if_neg (show ¬ (E < s.size ∧ bt s (E : Int) = 101) from fun h => q5 h.1)]⟩⟩
          · have n1 := ne1 (P + 1 + run s (P + 1)) (by clear hbr hsr hit1 hit2 hit3 q0; omega)
            have n2 : ¬ (P + 1 + run s (P + 1) = s.size) := by clear hbr hsr hit1 hit2 hit3 q0; omega
            have n3 : ¬ (rn be be.size 0 = be.size ∧ be.size ≠ 0) := fun h => by
              have h6 := hbr.mp h.1
              clear hbr hsr hit1 hit2 hit3 q0
              omega
            rw [decide_eq_false n3, if_neg (show ¬ (false = true) by decide)]
            unfold lqT
            rw [if_neg (fun h => n1 h.2), decide_eq_false n2]
            exact ⟨_, _, _, rfl, fun h => by cases h⟩
      · have hPE : P = E := by omega
        have hD : ah ++ be = lqD s ∧ be.size = lqB s ∧ lqE s = lqU s E := by
          have cnd : ¬ (run s 0 < s.size ∧ bt s (run s 0 : Int) = 46) := by
            rw [← q1]
            intro h
            have := hit1 (by omega)
            rw [← hPE] at this
            omega
          obtain ⟨x1, x2⟩ := lq_extract s 0 P (Nat.zero_le _) (by omega)
          have bz : be.size = 0 := by omega
          unfold lqD lqB lqE
          rw [if_neg cnd, if_neg cnd, if_neg cnd, ← q1, hPE]
          refine ⟨?_, bz, rfl⟩
          rw [← hPE, ba_ext (x := ah) (y := s.extract 0 P) (by rw [x1, s21, Nat.sub_zero]) (fun j hj => by rw [x2 j (by omega), a1 j hj])]
          have : be = ByteArray.empty := ByteArray.size_eq_zero_iff.mp bz
          rw [this, ByteArray.append_empty]
        rw [fl2, decide_eq_false q2, if_neg (show ¬ (false = true) by decide), Option.bind_some, if_pos (show true = true from rfl), fl1]
        rw [if_neg (show ¬ (P < s.size ∧ bt s (P : Int) = 46) from fun h => by have := hit1 (by omega); rw [← hPE] at this; omega)]
        unfold lqT
        rw [hPE]
        by_cases q5 : E < s.size
        · rw [decide_eq_true q5, if_pos (show true = true from rfl), if_pos (show E < s.size ∧ bt s (E : Int) = 101 from ⟨q5, hit1 q5⟩)]
          obtain ⟨p, q, r, hh, hx⟩ := lq_pow2 s pw ah be E k q5 hk hs s12 b12
          refine ⟨p, q, r, hh, fun ok => ?_⟩
          obtain ⟨rfl, rfl, rfl⟩ := hx ok
          exact ⟨hD.1, hD.2.1, by rw [hD.2.2]; unfold lqU; rw [if_pos (show E < s.size ∧ bt s (E : Int) = 101 from ⟨q5, hit1 q5⟩)]⟩
        · rw [decide_eq_false q5, if_neg (show ¬ (false = true) by decide), if_neg (show ¬ (E < s.size ∧ bt s (E : Int) = 101) from fun h => q5 h.1), decide_eq_true (show E = s.size by omega)]
          exact ⟨_, _, _, rfl, fun _ => ⟨hD.1, hD.2.1, by rw [hD.2.2]; unfold lqU; rw [if_neg (show ¬ (E < s.size ∧ bt s (E : Int) = 101) from fun h => q5 h.1)]⟩⟩
    · rw [decide_eq_false (fun h => by have := hsr.mp h.1; omega), if_neg (show ¬ (false = true) by decide)]
      rw [if_neg (show ¬ (run s 0 < s.size ∧ bt s (run s 0 : Int) = 46) from fun h => ne3 _ (by omega) h.2)]
      unfold lqT
      rw [if_neg (show ¬ (run s 0 < s.size ∧ bt s (run s 0 : Int) = 101) from fun h => ne1 _ (by omega) h.2), decide_eq_false (show ¬ (run s 0 = s.size) by omega)]
      exact ⟨_, _, _, rfl, fun h => by cases h⟩
theorem dc_460 : (10 : Nat) ^ 460 ≤ 65536 ^ 96 := by decide +kernel
theorem dc_60 : (10 : Nat) ^ 60 ≤ 65536 ^ 13 := by decide +kernel
theorem dc_ten (n : Nat) : (10 : Int) ^ n = ((10 ^ n : Nat) : Int) := by rw [Int.natCast_pow]; rfl
theorem dc_pw (n : Nat) : MN.pw n = ((65536 ^ n : Nat) : Int) := by unfold MN.pw; rw [Int.natCast_pow]; rfl
theorem dc_le {i j : Nat} (h : i ≤ j) : (10 : Int) ^ i ≤ 10 ^ j := by rw [dc_ten, dc_ten]; exact Int.ofNat_le.mpr (Nat.pow_le_pow_right (by decide) h)
theorem dc_len {v : List Int} (hc : MN.Can v) (hv : MN.val v ≤ 10 ^ 460) : v.length ≤ 97 := hc.len_le (by
  have h : (10 : Int) ^ 460 ≤ MN.pw 96 := by rw [dc_ten, dc_pw]; exact Int.ofNat_le.mpr dc_460
  have h2 : MN.pw 97 = 65536 * MN.pw 96 := MN.pw_succ 96
  have h3 := MN.pw_pos 96
  rw [h2]
  generalize (10 : Int) ^ 460 = z at hv h
  omega)
theorem dc_len60 {v : List Int} {i : Nat} (hc : MN.Can v) (hv : MN.val v < 10 ^ i) (hi : i ≤ 60) : v.length ≤ 13 := hc.len_le (by
  have h : (10 : Int) ^ 60 ≤ MN.pw 13 := by rw [dc_ten, dc_pw]; exact Int.ofNat_le.mpr dc_60
  exact Int.lt_of_lt_of_le hv (Int.le_trans (dc_le hi) h))
theorem dc_can10 : MN.Can [10] := ⟨MN.DOk.cons (by omega) (by omega) MN.DOk.nil, by simp⟩
theorem dc_can1 : MN.Can [1] := ⟨MN.DOk.cons (by omega) (by omega) MN.DOk.nil, by simp⟩
theorem dc_v1 : MN.val [1] = 1 := by simp [MN.val]
theorem dc_step (s : ByteArray) (bh pw : Int) (n i : Nat) (hn : s.size = n) (hn2 : n ≤ 60) (hi : i < n) (hd : 48 ≤ bt s (i : Int) ∧ bt s (i : Int) ≤ 57) (out : List Int) (hc : MN.Can out) (hv : MN.val out < 10 ^ i) (k : Nat) (hk : 400000 ≤ k) :
    ∃ z, MN.Can z ∧ MN.val z < 10 ^ (i + 1) ∧ spec_DecFrac.l0 (k + 1) s bh pw out (i : Int) = spec_DecFrac.l0 k s bh pw z ((i + 1 : Nat) : Int) ∧ impl_natRead.l0 (k + 1) s out (n : Int) (i : Int) = impl_natRead.l0 k s z (n : Int) ((i + 1 : Nat) : Int) := by
  have hl := dc_len60 hc hv (by omega)
  obtain ⟨d1, d2⟩ := hd
  obtain ⟨c, hcv⟩ : ∃ c, c = bt s (i : Int) := ⟨_, rfl⟩
  rw [← hcv] at d1 d2
  have e2 : wrap64 ((i : Int) + 1) = ((i + 1 : Nat) : Int) := by clear hv; unfold wrap64; omega
  have em : (c - 48) % 256 = c - 48 := by clear hv; omega
  obtain ⟨ys, s1, s2, s3, s4⟩ := e_sTimes k out 10 hc (by clear hv; omega) (by omega) (by clear hv; omega)
  obtain ⟨yi, i1, i2, i3, i4⟩ := e_iMul k out [10] hc.1 dc_can10.1 (by clear hv; omega) (by simp) (by clear hv; omega)
  have ey : MN.trimD yi = ys := (MN.Can.trimD i3).inj s2 (by rw [MN.val_trimD, i4, s3]; simp [MN.val])
  have hv2 : MN.val ys < 10 ^ (i + 1) := by rw [s3, Int.pow_succ]; omega
  have ly2 := dc_len60 s2 hv2 (by clear hv hv2; omega)
  obtain ⟨v, n1, n2, n3, n4⟩ := e_sNatOf k (c - 48) (by clear hv hv2; omega) (by clear hv hv2; omega) (by clear hv hv2; omega)
  have m1 : impl_natOf.f k (c - 48) = some v := by
    unfold impl_natOf.f; rw [e_iNatOf_l _ _ _ (by clear hv hv2; omega) (by clear hv hv2; omega)]; exact n1
  obtain ⟨z, a1, a2, a3, a4⟩ := e_sAdd k ys v s2 n3 (by clear hv hv2; omega) (by clear hv hv2; omega) (by clear hv hv2; omega)
  obtain ⟨z', b1, b2, b3, b4⟩ := e_iAdd k ys v s2.1 n3.1 (by clear hv hv2; omega) (by clear hv hv2; omega) (by clear hv hv2; omega)
  have ez : MN.trimD z' = z := (MN.Can.trimD b3).inj a3 (by rw [MN.val_trimD, b4, a4])
  refine ⟨z, a3, ?_, ?_, ?_⟩
  · rw [a4, s3, n4, Int.pow_succ]; omega
  · rw [spec_DecFrac.l0, if_pos (by clear hv hv2; omega), s1, Option.bind_some, if_pos (by clear hv hv2; omega), ← hcv, em, n1, Option.bind_some, a1, Option.bind_some,
      e_sTrim k z (by clear hv hv2; omega) (by clear hv hv2; omega), Option.bind_some, MN.trimD_can a3, e2]
  · rw [impl_natRead.l0, if_pos (by clear hv hv2; omega), i1, Option.bind_some, if_pos (by clear hv hv2; omega), if_pos (by clear hv hv2; omega), ← hcv, em, m1, Option.bind_some, ey, b1, Option.bind_some, ez, e2]
theorem dc_read (s : ByteArray) (bh pw : Int) (n : Nat) (hn : s.size = n) (hn2 : n ≤ 60) (hd : ∀ m : Nat, m < n → 48 ≤ bt s (m : Int) ∧ bt s (m : Int) ≤ 57) : ∀ (d k : Nat) (out : List Int) (i : Nat), i + d = n → MN.Can out → MN.val out < 10 ^ i → 400001 + d < k →
    ∃ v, spec_DecFrac.l0 k s bh pw out (i : Int) = spec_DecFrac.l0 (k - d) s bh pw v (n : Int) ∧ impl_natRead.l0 k s out (n : Int) (i : Int) = some v ∧ MN.Can v ∧ MN.val v < 10 ^ n := by
  intro d
  induction d with
  | zero =>
    intro k out i hi hc hv hk
    obtain ⟨k, rfl⟩ : ∃ q, k = q + 1 := ⟨k - 1, by clear hv; omega⟩
    obtain rfl : i = n := by clear hv; omega
    refine ⟨out, rfl, ?_, hc, hv⟩
    rw [impl_natRead.l0, if_neg (by clear hv; omega)]
  | succ d ih =>
    intro k out i hi hc hv hk
    obtain ⟨k, rfl⟩ : ∃ q, k = q + 1 := ⟨k - 1, by clear hv; omega⟩
    obtain ⟨z, z1, z2, z3, z4⟩ := dc_step s bh pw n i hn hn2 (by clear hv; omega) (hd i (by clear hv; omega)) out hc hv k (by clear hv; omega)
    obtain ⟨v, g1, g2, g⟩ := ih k z (i + 1) (by clear hv z2; omega) z1 z2 (by clear hv z2; omega)
    exact ⟨v, by rw [z3, g1, Nat.add_sub_add_right], z4.trans g2, g⟩
theorem dc_ten_l (p : Nat) (hp : p ≤ 460) : ∀ (d k i : Nat) (out : List Int), i + d = p → MN.Can out → MN.val out = 10 ^ i → 400001 + d < k → ∃ v, spec_l7Tens.l0 k (p : Int) out (i : Int) = some v ∧ impl_ten.l0 k out (p : Int) (i : Int) = some v ∧ MN.Can v ∧ MN.val v = 10 ^ p := by
  intro d
  induction d with
  | zero =>
    intro k i out hi hc hv hk
    obtain ⟨k, rfl⟩ : ∃ q, k = q + 1 := ⟨k - 1, by clear hv; omega⟩
    obtain rfl : i = p := by clear hv; omega
    refine ⟨out, ?_, ?_, hc, hv⟩
    · rw [spec_l7Tens.l0, if_neg (Int.lt_irrefl _)]
    · rw [impl_ten.l0, if_neg (Int.lt_irrefl _)]
  | succ d ih =>
    intro k i out hi hc hv hk
    obtain ⟨k, rfl⟩ : ∃ q, k = q + 1 := ⟨k - 1, by clear hv; omega⟩
    have hl := dc_len hc (by rw [hv]; exact dc_le (by clear hv; omega))
    have e2 : wrap64 ((i : Int) + 1) = ((i + 1 : Nat) : Int) := w64i i (by clear hv; omega)
    have c1 : (i : Int) < (p : Int) := by clear hv e2; omega
    obtain ⟨ys, s1, s2, s3, s4⟩ := e_sTimes k out 10 hc (by clear hv e2; omega) (by omega) (by clear hv e2; omega)
    obtain ⟨yi, i1, i2, i3, i4⟩ := e_iMul k out [10] hc.1 dc_can10.1 (by clear hv e2; omega) (by simp) (by clear hv e2; omega)
    have ey : MN.trimD yi = ys := (MN.Can.trimD i3).inj s2 (by rw [MN.val_trimD, i4, s3]; simp [MN.val])
    obtain ⟨v, g1, g2, g⟩ := ih k (i + 1) ys (by clear hv e2; omega) s2 (by rw [s3, hv, Int.pow_succ]) (by clear hv e2; omega)
    refine ⟨v, ?_, ?_, g⟩
    · rw [spec_l7Tens.l0, if_pos c1, s1, Option.bind_some, e2]; exact g1
    · rw [impl_ten.l0, if_pos c1, i1, Option.bind_some, ey, e2]; exact g2
theorem dc_tens (p k : Nat) (hp : p ≤ 460) (hk : 500000 ≤ k) : ∃ v, spec_l7Tens.f k (p : Int) = some v ∧ impl_ten.f k (p : Int) = some v ∧ MN.Can v ∧ MN.val v = 10 ^ p :=
  dc_ten_l p hp p k 0 [1] (Nat.zero_add _) dc_can1 dc_v1 (by omega)
/-- Both sides divide alike. -/
theorem dc_div (k k' : Nat) (a b : List Int) (ca : MN.Can a) (cb : MN.Can b) (la : a.length ≤ 150) (lb : b.length ≤ 150) (hb : 0 < MN.val b) (hk : 100000000 ≤ k) (hk' : 100000000 ≤ k') : ∃ q r, MN.Can q ∧ MN.Can r ∧ MN.val q = MN.val a / MN.val b ∧ MN.val r = MN.val a % MN.val b ∧ spec_l5Div.f k a b = some (q, r) ∧ impl_natDiv.f k' a b = some (q, r) := by
  obtain ⟨q, r, c1, c2, c3, c4, c5⟩ := e_sDiv k a b ca cb la lb hb hk
  obtain ⟨q', r', d1, d2, d3, d4, d5⟩ := e_iDiv k' a b ca cb la lb hb (by omega)
  have u1 := (Int.ediv_emod_unique hb (a := MN.val a) (r := MN.val r) (q := MN.val q)).mpr ⟨by rw [c3, Int.mul_comm (MN.val b), Int.add_comm], MN.val_nonneg c2.1, c4⟩
  have u2 := (Int.ediv_emod_unique hb (a := MN.val a) (r := MN.val r') (q := MN.val q')).mpr ⟨by rw [d3, Int.mul_comm (MN.val b), Int.add_comm], MN.val_nonneg d2.1, d4⟩
  have e1 : q' = q := d1.inj c1 (by rw [← u1.1, ← u2.1])
  have e2 : r' = r := d2.inj c2 (by rw [← u1.2, ← u2.2])
  rw [e1, e2] at d5
  exact ⟨q, r, c1, c2, u1.1.symm, u1.2.symm, c5, d5⟩
theorem dc_gcd : ∀ (d k k' : Nat) (x y : List Int), MN.Can x → MN.Can y → x.length ≤ 150 → y.length ≤ 150 → (0 < MN.val x ∨ 0 < MN.val y) → MN.val y ≤ (d : Int) → 100000000 + d < k → 100000000 + d < k' → ∃ g, MN.Can g ∧ g.length ≤ 150 ∧ 0 < MN.val g ∧ spec_l5Gcd.l0 k x y = some g ∧ impl_natGcd.l0 k' x y = some g := by
  intro d
  induction d with
  | zero =>
    intro k k' x y cx cy lx ly h hy hk hk'
    obtain ⟨k, rfl⟩ : ∃ q, k = q + 1 := ⟨k - 1, by omega⟩
    obtain ⟨k', rfl⟩ : ∃ q, k' = q + 1 := ⟨k' - 1, by omega⟩
    have y0 := MN.val_nonneg cy.1
    have e := cy.zero (by omega)
    subst e
    refine ⟨x, cx, lx, by omega, ?_, ?_⟩
    · rw [spec_l5Gcd.l0, if_neg (by simp)]
    · rw [impl_natGcd.l0, if_neg (by simp)]
  | succ d ih =>
    intro k k' x y cx cy lx ly h hy hk hk'
    obtain ⟨k, rfl⟩ : ∃ q, k = q + 1 := ⟨k - 1, by omega⟩
    obtain ⟨k', rfl⟩ : ∃ q, k' = q + 1 := ⟨k' - 1, by omega⟩
    have y0 := MN.val_nonneg cy.1
    rcases Int.lt_or_le 0 (MN.val y) with c | c
    · obtain ⟨q, r, c1, c2, c3, c4, c5, c6⟩ := dc_div k k' x y cx cy lx ly c (by omega) (by omega)
      have m1 := Int.emod_nonneg (MN.val x) (show MN.val y ≠ 0 by omega)
      have m2 := Int.emod_lt_of_pos (MN.val x) c
      have lr := can_len_le cy c2 (by omega)
      obtain ⟨g, g1, g2, g3, g4, g5⟩ := ih k k' y r cy c2 ly (by omega) (.inl c) (by omega) (by omega) (by omega)
      have yl : (y.length : Int) > 0 := by
        rcases y with _ | ⟨a, b⟩
        · simp [MN.val] at c
        · simp
      refine ⟨g, g1, g2, g3, ?_, ?_⟩
      · rw [spec_l5Gcd.l0, if_pos yl, c5, Option.bind_some]; exact g4
      · rw [impl_natGcd.l0, if_pos yl, c6, Option.bind_some]; exact g5
    · have e := cy.zero (by omega)
      subst e
      refine ⟨x, cx, lx, by omega, ?_, ?_⟩
      · rw [spec_l5Gcd.l0, if_neg (by simp)]
      · rw [impl_natGcd.l0, if_neg (by simp)]
theorem dc_one {r : List Int} (h : MN.Can r) (h0 : MN.val r = 1) : r = [1] := h.inj dc_can1 (by rw [h0, dc_v1])
theorem dc_gcdf (k : Nat) (x y : List Int) (cx : MN.Can x) (cy : MN.Can y) (lx : x.length ≤ 150) (ly : y.length ≤ 150) (hk : 100000000 ≤ k) : spec_l5Gcd.f k x y = spec_l5Gcd.l0 k x y := by
  unfold spec_l5Gcd.f
  rw [e_sTrim k x (by omega) (by omega), Option.bind_some, e_sTrim k y (by omega) (by omega), Option.bind_some, MN.trimD_can cx, MN.trimD_can cy]
theorem dc_cmp1 (k : Nat) (g : List Int) (cg : MN.Can g) (lg : g.length ≤ 150) (hk : 100000000 ≤ k) : impl_natCmp.f k g [1] = some (sg (MN.val g) 1) := by
  rw [← dc_v1]; exact (e_sg g [1] cg dc_can1 (by omega) (by simp) k (by omega)).2
/-- Both sides bring a fraction to lowest terms alike. -/
theorem dc_make (k k' : Nat) (a b : List Int) (ca : MN.Can a) (cb : MN.Can b) (la : a.length ≤ 150) (lb : b.length ≤ 150) (hb : 0 < MN.val b) (d : Nat) (hd : MN.val b ≤ (d : Int)) (hk : 100000010 + d < k) (hk' : 100000010 + d < k') : ∃ t u, t.length ≤ 150 ∧ u.length ≤ 150 ∧ spec_l6Make.f k false a b = some (false, t, u, true) ∧ impl_lowest.f k' false a b = some (false, t, u) := by
  have bl : (b.length : Int) > 0 := by
    rcases b with _ | ⟨x, y⟩
    · simp [MN.val] at hb
    · simp
  unfold spec_l6Make.f impl_lowest.f
  by_cases c0 : a = []
  · subst c0
    refine ⟨[], [1], by simp, by simp, by rw [if_pos (by simp)], ?_⟩
    obtain ⟨k1, rfl⟩ : ∃ x, k' = x + 2 := ⟨k' - 2, by omega⟩
    obtain ⟨q, r, c1, c2, c3, c4, c5, c6⟩ := dc_div (k1 + 1) (k1 + 1) [] b ca cb la lb hb (by omega) (by omega)
    rw [show MN.val [] = 0 from rfl, Int.zero_emod] at c4
    have e := c2.zero c4
    subst e
    have g : impl_natGcd.f (k1 + 2) [] b = some b := by
      unfold impl_natGcd.f
      rw [show k1 + 2 = (k1 + 1) + 1 from rfl, impl_natGcd.l0, if_pos bl, c6, Option.bind_some, impl_natGcd.l0, if_neg (by simp)]
    rw [g, Option.bind_some, dc_cmp1 (k1 + 2) b cb lb (by omega), Option.bind_some]
    by_cases c : MN.val b = 1
    · rw [dc_one cb c, dc_v1, if_pos (by decide), if_neg (by decide)]
    · have cs : ¬ sg (MN.val b) 1 = 0 := by unfold sg; split; decide; rw [if_pos (by omega)]; decide
      obtain ⟨q, r, d1, d2, d3, d4, d5, d6⟩ := dc_div (k1 + 2) (k1 + 2) [] b ca cb la lb hb (by omega) (by omega)
      obtain ⟨q', r', f1, f2, f3, f4, f5, f6⟩ := dc_div (k1 + 2) (k1 + 2) b b cb cb lb lb hb (by omega) (by omega)
      rw [show MN.val [] = 0 from rfl, Int.zero_ediv] at d3
      rw [Int.ediv_self (by omega)] at f3
      have e := d1.zero d3
      subst e
      rw [if_neg cs, d6, Option.bind_some, f6, Option.bind_some, if_neg (by decide), dc_one f1 f3]
  · have a0 : 0 < MN.val a := by
      have := ca.pos c0
      have := MN.pw_pos (a.length - 1)
      omega
    have al : ¬ (a.length : Int) = 0 := by
      rcases a with _ | ⟨x, y⟩
      · exact absurd rfl c0
      · simp; omega
    obtain ⟨g, g1, g2, g3, g4, g5⟩ := dc_gcd d k k' a b ca cb la lb (.inr hb) hd (by omega) (by omega)
    obtain ⟨q, r, d1, d2, d3, d4, d5, d6⟩ := dc_div k k' a g ca g1 la g2 g3 (by omega) (by omega)
    obtain ⟨q', r', f1, f2, f3, f4, f5, f6⟩ := dc_div k k' b g cb g1 lb g2 g3 (by omega) (by omega)
    have lq : q.length ≤ a.length := can_len_le ca d1 (by rw [d3]; exact Int.ediv_le_self _ (Int.le_of_lt a0))
    have lq' : q'.length ≤ b.length := can_len_le cb f1 (by rw [f3]; exact Int.ediv_le_self _ (Int.le_of_lt hb))
    refine ⟨q, q', by omega, by omega, ?_, ?_⟩
    · rw [if_neg al, dc_gcdf k a b ca cb la lb (by omega), g4, Option.bind_some, d5, Option.bind_some, f5, Option.bind_some]
      dsimp only
      rw [if_neg (by clear d3 f3 d4 f4; omega), if_neg (by clear d3 f3 d4 f4; omega)]
    · have gg : impl_natGcd.f k' a b = some g := g5
      rw [gg, Option.bind_some, dc_cmp1 k' g g1 g2 (by omega), Option.bind_some]
      by_cases c : MN.val g = 1
      · rw [c] at d3 f3
        rw [Int.ediv_one] at d3 f3
        rw [c, if_pos (by decide), if_neg (by decide), d1.inj ca d3, f1.inj cb f3]
      · have cs : ¬ sg (MN.val g) 1 = 0 := by unfold sg; split; decide; rw [if_pos (by omega)]; decide
        rw [if_neg cs, d6, Option.bind_some, f6, Option.bind_some, if_neg (by decide)]
/-- A whole number over one stays as it is. -/
theorem dc_whole (k : Nat) (a : List Int) (ca : MN.Can a) (la : a.length ≤ 150) (hk : 100000010 < k) : spec_l6Make.f k false a [1] = some (false, a, [1], true) := by
  unfold spec_l6Make.f
  by_cases c0 : a = []
  · subst c0; rw [if_pos (by simp)]
  · have al : ¬ (a.length : Int) = 0 := by
      rcases a with _ | ⟨x, y⟩
      · exact absurd rfl c0
      · simp; omega
    have v1 : 0 < MN.val [1] := by rw [dc_v1]; decide
    obtain ⟨k1, rfl⟩ : ∃ x, k = x + 2 := ⟨k - 2, by omega⟩
    obtain ⟨q, r, c1, c2, c3, c4, c5, c6⟩ := dc_div (k1 + 1) (k1 + 1) a [1] ca dc_can1 la (by simp) v1 (by omega) (by omega)
    rw [dc_v1, Int.emod_one] at c4
    have e := c2.zero c4
    subst e
    have g : spec_l5Gcd.f (k1 + 2) a [1] = some [1] := by
      rw [dc_gcdf (k1 + 2) a [1] ca dc_can1 la (by simp) (by omega), show k1 + 2 = (k1 + 1) + 1 from rfl, spec_l5Gcd.l0, if_pos (by simp), c5, Option.bind_some, spec_l5Gcd.l0, if_neg (by simp)]
    obtain ⟨q1, r1, d1, d2, d3, d4, d5, d6⟩ := dc_div (k1 + 2) (k1 + 2) a [1] ca dc_can1 la (by simp) v1 (by omega) (by omega)
    obtain ⟨q2, r2, f1, f2, f3, f4, f5, f6⟩ := dc_div (k1 + 2) (k1 + 2) [1] [1] dc_can1 dc_can1 (by simp) (by simp) v1 (by omega) (by omega)
    rw [dc_v1, Int.ediv_one] at d3
    rw [dc_v1] at f3
    have e1 : q1 = a := d1.inj ca d3
    have e2 : q2 = [1] := dc_one f1 (by rw [f3]; decide)
    rw [if_neg al, g, Option.bind_some, d5, Option.bind_some, f5, Option.bind_some]
    dsimp only
    rw [e1, e2, if_neg (by omega), if_neg (by decide)]
theorem dc_given (k : Nat) (t u : List Int) (lt : t.length ≤ 150) (lu : u.length ≤ 150) (hk : 1 ≤ k) : impl_given.f k false t u = some (false, t, u, true) := by
  obtain ⟨k, rfl⟩ : ∃ x, k = x + 1 := ⟨k - 1, by omega⟩
  unfold impl_given.f
  rw [if_neg (by omega), decide_eq_false (by omega), impl_given.j0, if_neg (by decide), e_clone t (by omega), Option.bind_some, e_clone u (by omega), Option.bind_some]
/-- What both sides do with the digits' number and the power. -/
theorem dc_tail (k k' : Nat) (D : ByteArray) (bh pw x : Int) (v : List Int) (cv : MN.Can v) (hv : MN.val v < 10 ^ 60) (hx : wrap64 (pw - bh) = x) (hp : -460 ≤ x ∧ x ≤ 400) (Z : Nat) (hZ : (10 : Int) ^ 460 ≤ (Z : Int)) (hk : 100000020 + Z < k) (hk' : 100000020 + Z < k') :
    ∃ t u, t.length ≤ 150 ∧ u.length ≤ 150 ∧ spec_DecFrac.l0 (k + 1) D bh pw v (D.size : Int) = some (false, t, u, true) ∧ impl_DecFrac.g k' v x = some (false, t, u, true) := by
  have lv := dc_len60 cv hv (by decide)
  rw [spec_DecFrac.l0, if_neg (Int.lt_irrefl _), hx]
  unfold impl_DecFrac.g
  have v0 := MN.val_nonneg cv.1
  by_cases c : x ≥ 0
  · obtain ⟨p, hpp⟩ : ∃ p : Nat, x = (p : Int) := ⟨x.toNat, by omega⟩
    have hp4 : p ≤ 400 := by omega
    rw [if_pos c, if_pos c, hpp]
    obtain ⟨w, w1, _, w3, w4⟩ := dc_tens p k (by omega) (by omega)
    obtain ⟨w', _, x2, x3, x4⟩ := dc_tens p k' (by omega) (by omega)
    have ew : w' = w := x3.inj w3 (by rw [x4, w4])
    rw [ew] at x2
    have lw := dc_len w3 (by rw [w4]; exact dc_le (by omega))
    obtain ⟨y, y1, y2, y3, y4⟩ := e_sMul k v w cv.1 w3.1 (by omega) (by omega) (by omega)
    obtain ⟨z, z1, z2, z3, z4⟩ := e_iMul k' v w cv.1 w3.1 (by omega) (by omega) (by omega)
    have ez : MN.trimD z = MN.trimD y := (MN.Can.trimD z3).inj (MN.Can.trimD y3) (by rw [MN.val_trimD, MN.val_trimD, z4, y4])
    have cy := MN.Can.trimD y3
    have ly : (MN.trimD y).length ≤ 97 := dc_len cy (by
      rw [MN.val_trimD, y4, w4]
      have h1 : (10 : Int) ^ p ≤ 10 ^ 400 := dc_le hp4
      have h2 : (0 : Int) ≤ 10 ^ p := by rw [dc_ten]; exact Int.natCast_nonneg _
      have h3 : (10 : Int) ^ 460 = 10 ^ 60 * 10 ^ 400 := by rw [← Int.pow_add]
      rw [h3]
      exact Int.mul_le_mul (Int.le_of_lt hv) h1 h2 (by rw [dc_ten]; exact Int.natCast_nonneg _))
    refine ⟨MN.trimD y, [1], by omega, by simp, ?_, ?_⟩
    · rw [w1, Option.bind_some, y1, Option.bind_some, dc_whole k _ cy (by omega) (by omega), Option.bind_some]
    · rw [x2, Option.bind_some, z1, Option.bind_some, ez, dc_given k' _ _ (by omega) (by simp) (by omega)]
  · obtain ⟨p, hpp⟩ : ∃ p : Nat, -x = (p : Int) := ⟨(-x).toNat, by omega⟩
    have hp4 : p ≤ 460 := by omega
    have w0 : wrap64 (-x) = (p : Int) := by rw [hpp]; exact w64n p (by omega)
    rw [if_neg c, if_neg c, w0]
    obtain ⟨w, w1, _, w3, w4⟩ := dc_tens p k hp4 (by clear w0 hx; omega)
    obtain ⟨w', _, x2, x3, x4⟩ := dc_tens p k' hp4 (by clear w0 hx; omega)
    have ew : w' = w := x3.inj w3 (by rw [x4, w4])
    rw [ew] at x2
    have lw := dc_len w3 (by rw [w4]; exact dc_le hp4)
    have wp : 0 < MN.val w := by rw [w4, dc_ten]; exact Int.natCast_pos.mpr (Nat.pow_pos (by decide))
    have wz : MN.val w ≤ (Z : Int) := by rw [w4]; exact Int.le_trans (dc_le hp4) hZ
    obtain ⟨t, u, t1, t2, t3, t4⟩ := dc_make k k' v w cv w3 (by clear w0 hx; omega) (by clear w0 hx; omega) wp Z wz (by clear w0 hx; omega) (by clear w0 hx; omega)
    refine ⟨t, u, t1, t2, ?_, ?_⟩
    · rw [w1, Option.bind_some, t3, Option.bind_some]
    · rw [x2, Option.bind_some, t4, Option.bind_some, dc_given k' _ _ t1 t2 (by clear w0 hx; omega)]
theorem bt_app_l (x y : ByteArray) (j : Nat) (h : j < x.size) : bt (x ++ y) (j : Int) = bt x (j : Int) := by
  unfold bt
  rw [dif_pos (show ((j : Int)).toNat < (x ++ y).size by rw [ByteArray.size_append, Int.toNat_natCast]; omega), dif_pos (show ((j : Int)).toNat < x.size by rw [Int.toNat_natCast]; exact h)]
  simp only [Int.toNat_natCast]
  rw [ByteArray.getElem_append_left h]
theorem bt_app_r (x y : ByteArray) (j : Nat) (h : j < y.size) : bt (x ++ y) ((x.size + j : Nat) : Int) = bt y (j : Int) := by
  unfold bt
  rw [dif_pos (show (((x.size + j : Nat) : Int)).toNat < (x ++ y).size by rw [ByteArray.size_append, Int.toNat_natCast]; omega), dif_pos (show ((j : Int)).toNat < y.size by rw [Int.toNat_natCast]; exact h)]
  simp only [Int.toNat_natCast]
  rw [ByteArray.getElem_append_right (Nat.le_add_right _ _)]
  simp only [Nat.add_sub_cancel_left]
theorem lqD_dig (s : ByteArray) (hs : s.size ≤ 60) : (lqD s).size ≤ 60 ∧ lqB s ≤ 60 ∧ ∀ m : Nat, m < (lqD s).size → 48 ≤ bt (lqD s) (m : Int) ∧ bt (lqD s) (m : Int) ≤ 57 := by
  have r0 := run_le s 0
  obtain ⟨x1, x2⟩ := lq_extract s 0 (run s 0) (Nat.zero_le _) (by omega)
  have xd : ∀ m : Nat, m < (s.extract 0 (run s 0)).size → 48 ≤ bt (s.extract 0 (run s 0)) (m : Int) ∧ bt (s.extract 0 (run s 0)) (m : Int) ≤ 57 := fun m hm => by
    rw [x2 m (by omega)]; exact run_dig s 0 m (by omega)
  unfold lqD lqB
  by_cases c : run s 0 < s.size ∧ bt s (run s 0 : Int) = 46
  · rw [if_pos c, if_pos c]
    have r1 := run_le s (run s 0 + 1)
    obtain ⟨y1, y2⟩ := lq_extract s (run s 0 + 1) (run s 0 + 1 + run s (run s 0 + 1)) (by omega) (by omega)
    have zz0 : (s.extract 0 (run s 0) ++ s.extract (run s 0 + 1) (run s 0 + 1 + run s (run s 0 + 1))).size = run s 0 + run s (run s 0 + 1) := by rw [ByteArray.size_append, x1, y1]; omega
    refine ⟨by rw [zz0]; omega, by omega, fun m hm => ?_⟩
    rw [zz0] at hm
    by_cases h : m < run s 0
    · rw [bt_app_l _ _ m (by omega)]; exact xd m (by omega)
    · have e := bt_app_r (s.extract 0 (run s 0)) (s.extract (run s 0 + 1) (run s 0 + 1 + run s (run s 0 + 1))) (m - run s 0) (by omega)
      rw [show (s.extract 0 (run s 0)).size + (m - run s 0) = m by omega] at e
      rw [e, y2 (m - run s 0) (by omega)]
      exact run_dig s (run s 0 + 1) (m - run s 0) (by omega)
  · rw [if_neg c, if_neg c]
    exact ⟨by omega, by omega, xd⟩
theorem lqU_rng (s : ByteArray) (a : Nat) (h : lqT s a = true) : -400 ≤ lqU s a ∧ lqU s a ≤ 400 := by
  have two : ∀ (mi : Bool) (a : Nat), lqP2 s mi a = true → -400 ≤ lqW2 s mi a ∧ lqW2 s mi a ≤ 400 := fun mi a h => by
    have := (of_decide_eq_true h).2.2.2.2.1
    unfold lqW2
    split <;> omega
  unfold lqT at h
  unfold lqU
  split
  · rename_i c
    rw [if_pos c] at h
    unfold lqP at h
    unfold lqW
    split
    · rename_i c2; rw [if_pos c2] at h; exact two _ _ h
    · rename_i c2; rw [if_neg c2] at h; exact two _ _ h
  · omega
theorem lqE_rng (s : ByteArray) (h : lqQ s = true) : -400 ≤ lqE s ∧ lqE s ≤ 400 := by
  unfold lqQ at h
  unfold lqE
  by_cases c0 : run s 0 = 0 ∨ (1 < run s 0 ∧ bt s 0 = 48)
  · rw [if_pos c0] at h; cases h
  · rw [if_neg c0] at h
    by_cases c : run s 0 < s.size ∧ bt s (run s 0 : Int) = 46
    · rw [if_pos c] at h ⊢
      by_cases c1 : run s (run s 0 + 1) = 0
      · rw [if_pos c1] at h; cases h
      · rw [if_neg c1] at h; exact lqU_rng s _ h
    · rw [if_neg c] at h ⊢; exact lqU_rng s _ h
/-- What the law's short loops find, for rows of a hundred digits. -/
theorem dc_close (k : Nat) (t u : List Int) (lt : t.length ≤ 150) (lu : u.length ≤ 150) (hk : 1000 ≤ k) : ∃ (t1 u1 : List Int) (m1 m : Int), laws_eqIntS.f k t t = some true ∧ laws_eqIntS.f k u u = some true ∧ laws_markIntS.f k t 1 = some (m1, t1) ∧ laws_markIntS.f k u m1 = some (m, u1) ∧ laws_heldIntS.f k t1 1 = some m1 ∧ laws_heldIntS.f k u1 m1 = some m ∧ 0 ≤ m1 ∧ 0 ≤ m :=
  ⟨_, _, _, _, e_eqIntS k t (by omega) (by omega), e_eqIntS k u (by omega) (by omega), e_mark k t 1 (by omega) (by omega) (by omega), e_mark k u _ (by omega) (by omega) (by omega), e_held k t.length 1 (by omega) (by omega) (by omega), e_held k u.length _ (by omega) (by omega) (by omega), by omega, by omega⟩
theorem dc_both (s : ByteArray) (hs : s.size ≤ 1048576) (Z : Nat) (hZ : (10 : Int) ^ 460 ≤ (Z : Int)) (k : Nat) (hk : 200000000 + Z + s.size ≤ k) : ∃ (t u : List Int) (o : Bool), t.length ≤ 150 ∧ u.length ≤ 150 ∧ spec_DecFrac.f k s = some (false, t, u, o) ∧ impl_DecFrac.f k s = some (false, t, u, o) := by
  obtain ⟨a, b, p, hi, hx⟩ := lq_lit2 s hs k (by omega)
  have ok : impl_DecOk.f k s = some (lqQ s && decide (s.size ≤ 60)) := by
    unfold impl_DecOk.f
    rw [hi, Option.bind_some]
    dsimp only
    cases lqQ s with
    | true =>
      rw [if_pos rfl, Bool.true_and]
      congr 1
      by_cases c : s.size ≤ 60
      · rw [decide_eq_true c, decide_eq_true (show (s.size : Int) ≤ 60 by omega)]
      · rw [decide_eq_false c, decide_eq_false (show ¬ (s.size : Int) ≤ 60 by omega)]
    | false => rw [if_neg (by decide), Bool.false_and]
  by_cases c : lqQ s = true ∧ s.size ≤ 60
  · obtain ⟨hq, h60⟩ := c
    obtain ⟨⟨p1, p2, p3, p4⟩, hp, h4, h5⟩ := t7_all s h60 k (by omega)
    obtain ⟨rfl, rfl, rfl⟩ := h5 hq
    rw [hq] at h4 hi
    obtain ⟨ab, bs, pe⟩ := hx hq
    obtain ⟨d1, d2, d3⟩ := lqD_dig s h60
    have er := lqE_rng s hq
    obtain ⟨v, v1, v2, v3, v4⟩ := dc_read (lqD s) (lqB s : Int) (lqE s) (lqD s).size rfl d1 d3 (lqD s).size k [] 0 (Nat.zero_add _) MN.Can.nil (by simp [MN.val]) (by omega)
    have hv : MN.val v < 10 ^ 60 := Int.lt_of_lt_of_le v4 (dc_le d1)
    have hw : wrap64 (lqE s - (lqB s : Int)) = lqE s - (lqB s : Int) := by clear hv v4; unfold wrap64; omega
    obtain ⟨t, u, t1, t2, t3, t4⟩ := dc_tail (k - (lqD s).size - 1) k (lqD s) (lqB s : Int) (lqE s) _ v v3 hv hw (by clear hv v4 hw; omega) Z hZ (by clear hv v4 hw; omega) (by clear hv v4 hw; omega)
    rw [show k - (lqD s).size - 1 + 1 = k - (lqD s).size by clear hv v4 hw; omega] at t3
    refine ⟨t, u, true, t1, t2, ?_, ?_⟩
    · unfold spec_DecFrac.f
      rw [hp, Option.bind_some]
      dsimp only
      dsimp only at h4
      rw [h4, if_pos rfl]
      exact v1.trans t3
    · unfold impl_DecFrac.f
      rw [ok, Option.bind_some, hq, decide_eq_true h60, if_pos (show (true && true) = true from rfl), hi, Option.bind_some]
      dsimp only
      have zz0 : a.size + b.size ≤ 9223372036854775807 := by
        have : (a ++ b).size ≤ 60 := by rw [ab]; exact d1
        rw [ByteArray.size_append] at this
        clear hv v4 hw; omega
      have rd : impl_natRead.f k (a ++ b) = some v := by rw [ab]; unfold impl_natRead.f; exact v2
      rw [if_pos zz0, rd, Option.bind_some, bs, pe, hw]
      exact t4
  · have no : (lqQ s && decide (s.size ≤ 60)) = false := by
      cases h : lqQ s with
      | false => rfl
      | true => rw [Bool.true_and]; exact decide_eq_false fun g => c ⟨h, g⟩
    refine ⟨[], [], false, by simp, by simp, ?_, ?_⟩
    · unfold spec_DecFrac.f
      by_cases h60 : s.size ≤ 60
      · obtain ⟨p, hp, h4, _⟩ := t7_all s h60 k (by omega)
        have : lqQ s = false := by
          cases h : lqQ s with
          | false => rfl
          | true => exact absurd ⟨h, h60⟩ c
        rw [hp, Option.bind_some, h4, this, if_neg (by decide)]
      · have : spec_l7Parts.f k s = some ((⟨#[]⟩ : ByteArray), 0, 0, false) := by
          unfold spec_l7Parts.f
          rw [if_pos (by omega)]
        rw [this, Option.bind_some, if_neg (by decide)]
    · unfold impl_DecFrac.f
      rw [ok, Option.bind_some, no, if_neg (by decide)]
theorem FnExactDecFrac : laws_FnExactDecFrac.Pure := by
  intro s hs
  by_cases c : 1048576 < s.size
  · exact .inl c
  · right
    obtain ⟨Z, hZ⟩ : ∃ Z : Nat, (10 : Int) ^ 460 ≤ (Z : Int) := ⟨10 ^ 460, by rw [dc_ten]; exact Int.le_refl _⟩
    obtain ⟨k, hk⟩ : ∃ k : Nat, 200000000 + Z + s.size ≤ k := ⟨_, Nat.le_refl _⟩
    obtain ⟨t, u, o, lt, lu, h1, h2⟩ := dc_both s (by omega) Z hZ k hk
    obtain ⟨t1, u1, m1, m, g1, g2, g3, g4, g5, g6, g7, g8⟩ := dc_close k t u lt lu (by omega)
    exact ⟨k, false, t, u, o, t1, u1, m1, m, h1, h2, g1, g2, g3, g4, g5, g6, g7, g8⟩
end Go.Proofs.YtmdeolonjmjmgaaDoor.Pure
