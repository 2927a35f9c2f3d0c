/- LangNumOk of the program and of the reference agree for every text.
   Conditions: none beyond those of the given row (each number is of its kind). -/
import Derived.Test.YtmdeolonjmjmgaaDoorQFnExactLangNumOkx3
import Derived.Test.YtmdeolonjmjmgaaDoorMN
import Derived.Test.YtmdeolonjmjmgaaDoorSLit
namespace Go.Proofs.YtmdeolonjmjmgaaDoor.Pure
open Go.RowKit Go.Proofs.YtmdeolonjmjmgaaDoor.QFnExactLangNumOk Go.Proofs.YtmdeolonjmjmgaaDoorW.PrintWords Go.Proofs.YtmdeolonjmjmgaaDoorW.PrintLast Go.Proofs.YtmdeolonjmjmgaaDoorW.PrintMore Go.Proofs.YtmdeolonjmjmgaaDoor.MN Go.Proofs.YtmdeolonjmjmgaaDoor.SLit
set_option linter.unusedVariables false
set_option linter.unusedSimpArgs false
def lqd (s : ByteArray) (j : Nat) : Bool := decide (48 ≤ bt s (j : Int)) && decide (bt s (j : Int) ≤ 57)
def rn (s : ByteArray) : Nat → Nat → Nat
  | 0, _ => 0
  | m + 1, a => if lqd s a = true then rn s m (a + 1) + 1 else 0
def run (s : ByteArray) (a : Nat) : Nat := rn s (s.size - a) a
theorem lqd_iff (s : ByteArray) (j : Nat) : lqd s j = true ↔ 48 ≤ bt s (j : Int) ∧ bt s (j : Int) ≤ 57 := by
  unfold lqd; rw [Bool.and_eq_true, decide_eq_true_eq, decide_eq_true_eq]
theorem rn_le (s : ByteArray) : ∀ m a, rn s m a ≤ m := by
  intro m
  induction m with
  | zero => intro a; exact Nat.le_refl _
  | succ m ih =>
    intro a
    rw [rn]
    split
    · exact Nat.succ_le_succ (ih _)
    · exact Nat.zero_le _
theorem rn_dig (s : ByteArray) : ∀ m a j, j < rn s m a → lqd s (a + j) = true := by
  intro m
  induction m with
  | zero => intro a j h; exact absurd h (Nat.not_lt_zero _)
  | succ m ih =>
    intro a j h
    rw [rn] at h
    split at h
    · rename_i hd
      cases j with
      | zero => exact hd
      | succ j => rw [show a + (j + 1) = a + 1 + j by omega]; exact ih (a + 1) j (by omega)
    · exact absurd h (Nat.not_lt_zero _)
theorem rn_stop (s : ByteArray) : ∀ m a, rn s m a < m → lqd s (a + rn s m a) = false := by
  intro m
  induction m with
  | zero => intro a h; exact absurd h (Nat.not_lt_zero _)
  | succ m ih =>
    intro a h
    by_cases hd : lqd s a = true
    · have e : rn s (m + 1) a = rn s m (a + 1) + 1 := by rw [rn, if_pos hd]
      rw [e] at h ⊢
      rw [show a + (rn s m (a + 1) + 1) = a + 1 + rn s m (a + 1) by omega]
      exact ih (a + 1) (by omega)
    · have e : rn s (m + 1) a = 0 := by rw [rn, if_neg hd]
      rw [e, Nat.add_zero]
      exact Bool.eq_false_iff.mpr hd
theorem rn_uniq (s : ByteArray) (m a r : Nat) (h0 : r ≤ m) (h1 : ∀ j, j < r → lqd s (a + j) = true) (h2 : r < m → lqd s (a + r) = false) : rn s m a = r := by
  rcases Nat.lt_trichotomy (rn s m a) r with h | h | h
  · have h3 := rn_stop s m a (by omega)
    rw [h1 _ h] at h3; cases h3
  · exact h
  · have h4 := rn_le s m a
    have h3 := rn_dig s m a r h
    rw [h2 (by omega)] at h3; cases h3
theorem rn_cut (s : ByteArray) (m m' a : Nat) (h : m ≤ m') : rn s m a = if rn s m' a ≤ m then rn s m' a else m := by
  split
  · rename_i h1
    refine rn_uniq s m a _ h1 (fun j hj => rn_dig s m' a j hj) (fun h2 => rn_stop s m' a (by omega))
  · rename_i h1
    exact rn_uniq s m a m (Nat.le_refl _) (fun j hj => rn_dig s m' a j (by omega)) (fun h2 => absurd h2 (Nat.lt_irrefl _))
theorem rn_eq (s x : ByteArray) (a : Nat) : ∀ m i, (∀ j, j < m → bt x ((i + j : Nat) : Int) = bt s ((a + i + j : Nat) : Int)) → rn x m i = rn s m (a + i) := by
  intro m
  induction m with
  | zero => intro i h; rfl
  | succ m ih =>
    intro i h
    have h0 := h 0 (by omega)
    rw [Nat.add_zero, Nat.add_zero] at h0
    have e : lqd x i = lqd s (a + i) := by unfold lqd; rw [h0]
    rw [rn, rn, e, ih (i + 1) (fun j hj => by have := h (j + 1) (by omega); rw [show i + 1 + j = i + (j + 1) by omega, show a + (i + 1) + j = a + i + (j + 1) by omega]; exact this), show a + (i + 1) = a + i + 1 by omega]
theorem lq_id (x : ByteArray) (hx : x.size ≤ 1048576) : ∀ (m i k : Nat), i + m = x.size → m < k → impl_isDigits.l0 k x (x.size : Int) (i : Int) = some (decide (rn x m i = m ∧ x.size ≠ 0)) := by
  intro m
  induction m with
  | zero =>
    intro i k hi hk
    obtain ⟨k, rfl⟩ : ∃ q, k = q + 1 := ⟨k - 1, by omega⟩
    rw [impl_isDigits.l0, if_neg (by omega)]
    have h2 : x.toList.length = x.size := by rw [Lib.toList_data]; exact Array.length_toList
    cases hx : x.toList with
    | nil => rw [hx] at h2; simp only [List.length_nil] at h2; simp [← h2]
    | cons b l => rw [hx] at h2; simp only [List.length_cons] at h2; simp [rn, ← h2]
  | succ m ih =>
    intro i k hi hk
    obtain ⟨k, rfl⟩ : ∃ q, k = q + 1 := ⟨k - 1, by omega⟩
    have e2 : wrap64 ((i : Int) + 1) = ((i + 1 : Nat) : Int) := by unfold wrap64; omega
    rw [impl_isDigits.l0, if_pos (by omega), if_pos (by omega), if_pos (by omega)]
    by_cases hd : lqd x i = true
    · have h := (lqd_iff x i).mp hd
      rw [if_neg (by omega), if_neg (by omega), e2, ih (i + 1) k (by omega) (by omega), rn, if_pos hd]
      congr 1
      rw [decide_eq_decide]
      omega
    · rw [rn, if_neg hd]
      have h := mt (lqd_iff x i).mpr hd
      rw [show decide (0 = m + 1 ∧ x.size ≠ 0) = false from decide_eq_false (by omega)]
      by_cases c1 : bt x (i : Int) < 48
      · rw [if_pos c1]
      · rw [if_neg c1, if_pos (by omega)]
theorem lq_idf (x : ByteArray) (hx : x.size ≤ 1048576) (k : Nat) (hk : x.size < k) : impl_isDigits.f k x = some (decide (rn x x.size 0 = x.size ∧ x.size ≠ 0)) :=
  lq_id x hx x.size 0 k (by omega) hk
theorem lq_one (x : ByteArray) : x.toList = ([48] : List UInt8) ↔ x.size = 1 ∧ bt x 0 = 48 := by
  rw [Lib.toList_data]
  have h2 : x.data.toList.length = x.size := Array.length_toList
  have hb : ∀ h : 0 < x.size, bt x 0 = (((x.data.toList[0]'(by omega)) : UInt8).toNat : Int) := fun h => by
    unfold bt; rw [dif_pos (show (0 : Int).toNat < x.size from h)]; rfl
  constructor
  · intro h
    have h3 : x.size = 1 := by rw [← h2, h]; rfl
    refine ⟨h3, ?_⟩
    rw [hb (by omega)]
    have : x.data.toList[0]'(by omega) = 48 := by simp [h]
    rw [this]; rfl
  · intro ⟨h3, h4⟩
    rw [hb (by omega)] at h4
    match hl : x.data.toList, h2 with
    | [b], _ =>
      have e : x.data.toList[0]'(by omega) = b := by simp [hl]
      rw [e] at h4
      have : b = 48 := UInt8.toNat.inj (by rw [show (48 : UInt8).toNat = 48 from rfl]; omega)
      rw [this]
    | [], h5 => rw [h3] at h5; cases h5
    | _ :: _ :: _, h5 => rw [h3] at h5; simp at h5
theorem lq_wd (x : ByteArray) (hx : x.size ≤ 1048576) (k : Nat) (hk : x.size < k) : impl_wholeDigits.f k x = some (decide (rn x x.size 0 = x.size ∧ x.size ≠ 0 ∧ (x.size = 1 ∨ bt x 0 ≠ 48))) := by
  unfold impl_wholeDigits.f
  rw [lq_idf x hx k hk, Option.bind_some]
  by_cases h : rn x x.size 0 = x.size ∧ x.size ≠ 0
  · rw [decide_eq_true h, if_pos rfl]
    by_cases h1 : x.toList = ([48] : List UInt8)
    · rw [if_pos h1, decide_eq_true ⟨h.1, h.2, .inl ((lq_one x).mp h1).1⟩]
    · rw [if_neg h1, if_pos (by omega)]
      have h2 := mt (lq_one x).mpr h1
      congr 1
      by_cases h3 : bt x 0 = 48
      · rw [h3, decide_eq_false (by omega)]; rfl
      · rw [decide_eq_true ⟨h.1, h.2, .inr h3⟩]; exact bne_iff_ne.mpr h3
  · rw [decide_eq_false h, if_neg (by decide), decide_eq_false (by omega)]
theorem lq_extract (s : ByteArray) (a b : Nat) (h1 : a ≤ b) (h2 : b ≤ s.size) : (s.extract a b).size = b - a ∧ ∀ j : Nat, j < b - a → bt (s.extract a b) (j : Int) = bt s ((a + j : Nat) : Int) := by
  have hz : (s.extract a b).size = b - a := by rw [ByteArray.size_extract]; omega
  refine ⟨hz, fun j hj => ?_⟩
  unfold bt
  rw [dif_pos (show ((j : Int)).toNat < (s.extract a b).size by rw [hz]; omega), dif_pos (show (((a + j : Nat) : Int)).toNat < s.size by omega)]
  simp only [Int.toNat_natCast]
  rw [ByteArray.getElem_extract]
theorem lq_at (s : ByteArray) (j : Nat) (h : j < s.size) : ∃ b : UInt8, s.data.toList[j]? = some b ∧ bt s (j : Int) = (b.toNat : Int) := by
  have h2 : s.data.toList.length = s.size := Array.length_toList
  refine ⟨s[j], ?_, ?_⟩
  · rw [List.getElem?_eq_getElem (by omega)]; rfl
  · unfold bt; rw [dif_pos (show ((j : Int)).toNat < s.size by omega)]; rfl
/-- What a cut at the byte c gives. -/
structure Cut (c : UInt8) (s : ByteArray) (p : Nat) : Prop where
  le : p ≤ s.size
  ne : ∀ j, j < p → bt s (j : Int) ≠ (c.toNat : Int)
  hit : p < s.size → bt s (p : Int) = (c.toNat : Int)
  flag : (SLit.cutb c s).2.2 = decide (p < s.size)
  s1 : (SLit.cutb c s).1.size = p
  b1 : ∀ j : Nat, j < p → bt (SLit.cutb c s).1 (j : Int) = bt s (j : Int)
  s2 : (SLit.cutb c s).2.1.size = s.size - p - 1
  b2 : ∀ j : Nat, j < s.size - p - 1 → bt (SLit.cutb c s).2.1 (j : Int) = bt s ((p + 1 + j : Nat) : Int)
theorem lq_cut (c : UInt8) (s : ByteArray) : ∃ p, Cut c s p := by
  rcases SLit.index_cases c s with hix | ⟨i, hix, hroom⟩
  · have e : SLit.cutb c s = (s, ⟨#[]⟩, false) := by unfold SLit.cutb; rw [if_pos hix]
    have hn := Lib.indexByte_none hix
    refine ⟨s.size, ⟨Nat.le_refl _, fun j hj he => ?_, fun h => absurd h (Nat.lt_irrefl _), ?_, ?_, ?_, ?_, ?_⟩⟩
    · obtain ⟨b, hb, hb2⟩ := lq_at s j hj
      refine hn j (hb.trans ?_)
      rw [hb2] at he
      exact congrArg some (UInt8.toNat.inj (by omega))
    · rw [e]; exact (decide_eq_false (Nat.lt_irrefl _)).symm
    · rw [e]
    · intro j hj; rw [e]
    · rw [e, show s.size - s.size - 1 = 0 by omega]; rfl
    · intro j hj; omega
  · have e : SLit.cutb c s = (s.extract 0 i, s.extract (i + 1) s.size, true) := by unfold SLit.cutb; rw [if_neg (by omega), hix]; rfl
    obtain ⟨hs1, hs2⟩ := Lib.indexByte_some hix
    obtain ⟨x1, x2⟩ := lq_extract s 0 i (Nat.zero_le _) (by omega)
    obtain ⟨y1, y2⟩ := lq_extract s (i + 1) s.size hroom (Nat.le_refl _)
    refine ⟨i, ⟨by omega, fun j hj he => ?_, fun _ => ?_, ?_, ?_, ?_, ?_, ?_⟩⟩
    · obtain ⟨b, hb, hb2⟩ := lq_at s j (by omega)
      refine hs2 j hj (hb.trans ?_)
      rw [hb2] at he
      exact congrArg some (UInt8.toNat.inj (by omega))
    · obtain ⟨b, hb, hb2⟩ := lq_at s i (by omega)
      rw [hb2]
      have := Option.some.inj (hb.symm.trans hs1)
      rw [this]
    · rw [e]; exact (decide_eq_true (by omega)).symm
    · rw [e]; exact x1.trans (Nat.sub_zero _)
    · intro j hj; rw [e]; exact (x2 j (by omega)).trans (by rw [Nat.zero_add])
    · rw [e]; exact y1.trans (by omega)
    · intro j hj; rw [e]; exact y2 j (by omega)
def lqv (s : ByteArray) (a : Nat) : Nat → Nat
  | 0 => 0
  | k + 1 => lqv s a k * 10 + (bt s ((a + k : Nat) : Int) - 48).toNat
def lqP2 (s : ByteArray) (mi : Bool) (a : Nat) : Bool := decide (1 ≤ run s a ∧ run s a ≤ 3 ∧ ¬ (1 < run s a ∧ bt s (a : Int) = 48) ∧ ¬ (mi = true ∧ bt s (a : Int) = 48) ∧ lqv s a (run s a) ≤ 400 ∧ a + run s a = s.size)
def lqP (s : ByteArray) (a : Nat) : Bool := if a < s.size ∧ bt s (a : Int) = 45 then lqP2 s true (a + 1) else lqP2 s false a
def lqT (s : ByteArray) (a : Nat) : Bool := if a < s.size ∧ bt s (a : Int) = 101 then lqP s (a + 1) else decide (a = s.size)
def lqQ (s : ByteArray) : Bool := if run s 0 = 0 ∨ (1 < run s 0 ∧ bt s 0 = 48) then false else if run s 0 < s.size ∧ bt s (run s 0 : Int) = 46 then (if run s (run s 0 + 1) = 0 then false else lqT s (run s 0 + 1 + run s (run s 0 + 1))) else lqT s (run s 0)
theorem lq_minus (x : ByteArray) : SLit.minus x = decide (0 < x.size ∧ bt x 0 = 45) := by
  unfold SLit.minus Lib.hasPrefix
  by_cases h : 0 < x.size
  · obtain ⟨b, hb, hb2⟩ := lq_at x 0 h
    rw [show ((0 : Nat) : Int) = 0 from rfl] at hb2
    cases hl : x.data.toList with
    | nil => rw [hl] at hb; cases hb
    | cons d l =>
      rw [hl] at hb
      have hbd : d = b := Option.some.inj hb
      subst hbd
      rw [hb2]
      by_cases hd : d = 45
      · subst hd; rw [decide_eq_true ⟨h, rfl⟩]; rfl
      · have : ¬ (d.toNat : Int) = 45 := fun e => hd (UInt8.toNat.inj (by rw [show (45 : UInt8).toNat = 45 from rfl]; omega))
        rw [decide_eq_false (fun e => this e.2)]
        simp [List.isPrefixOf, Ne.symm hd]
  · rw [decide_eq_false (fun e => h e.1)]
    have h2 : x.data.toList.length = x.size := Array.length_toList
    cases hl : x.data.toList with
    | nil => rfl
    | cons d l => rw [hl] at h2; simp only [List.length_cons] at h2; omega
theorem lq_after (x : ByteArray) : (SLit.after x).size = x.size - (if SLit.minus x = true then 1 else 0) ∧ ∀ j : Nat, j < (SLit.after x).size → bt (SLit.after x) (j : Int) = bt x ((j + (if SLit.minus x = true then 1 else 0) : Nat) : Int) := by
  have h2 : x.data.toList.length = x.size := Array.length_toList
  have hB : ∀ (l : List UInt8) (j : Nat) (h : j < l.length), bt (⟨l.toArray⟩ : ByteArray) (j : Int) = ((l[j]).toNat : Int) := fun l j h => by
    unfold bt
    rw [dif_pos (show ((j : Int)).toNat < (⟨l.toArray⟩ : ByteArray).size by show _ < l.toArray.size; simpa using h)]
    rfl
  have hX : (⟨x.data.toList.toArray⟩ : ByteArray) = x := by cases x; simp
  unfold SLit.after Lib.trimPrefix
  by_cases hm : SLit.minus x = true
  · have hm' : Lib.hasPrefix x.data.toList [45] = true := hm
    rw [if_pos hm', if_pos hm]
    cases hl : x.data.toList with
    | nil => rw [hl] at hm'; exact absurd hm' (by decide)
    | cons d l =>
      rw [hl] at h2
      simp only [List.length_cons] at h2
      refine ⟨by show (List.drop 1 (d :: l)).toArray.size = _; simp; omega, fun j hj => ?_⟩
      have hj' : j < l.length := by have : j < (List.drop 1 (d :: l)).toArray.size := hj; simpa using this
      rw [← hX, hl]
      rw [show ([45] : List UInt8).length = 1 from rfl, hB _ _ (by simpa using hj'), hB _ _ (by simp; omega)]
      simp
  · have hm' : ¬ Lib.hasPrefix x.data.toList [45] = true := hm
    rw [if_neg hm', if_neg hm, hX]
    exact ⟨rfl, fun j hj => by rw [Nat.add_zero]⟩
theorem lq_pu (acc : Nat) (b : UInt8) (l : List UInt8) (h : 48 ≤ b.toNat ∧ b.toNat ≤ 57) (ha : acc ≤ 1000) : Lib.parseUint10 acc (b :: l) = Lib.parseUint10 (acc * 10 + (b.toNat - 48)) l := by
  rw [Lib.parseUint10, if_pos h, if_neg (by omega), if_neg (by omega)]
theorem lq_at1 (c : UInt8) (r : List UInt8) (u : Nat) (hc : c.toNat ≠ 43 ∧ c.toNat ≠ 45) (h : Lib.parseUint10 0 (c :: r) = .ok u) (hu : u ≤ 99999) : Lib.atoiAll (c :: r) = .ok (u : Int) := by
  have h1 : ¬ (c.toNat = 43 ∨ c.toNat = 45) := by omega
  have h2 : Lib.parseMag (c :: r) = .ok u := by unfold Lib.parseMag; rw [if_neg (by simp), h]
  simp only [Lib.atoiAll, if_neg h1, h2]
  rw [if_neg (by omega), if_neg (by omega), if_neg hc.2]
theorem lq_atoi (x : ByteArray) (h1 : 1 ≤ x.size) (h3 : x.size ≤ 3) (hd : ∀ j, j < x.size → lqd x j = true) : Lib.atoiAll x.data.toList = .ok (lqv x 0 x.size : Int) := by
  have h2 : x.data.toList.length = x.size := Array.length_toList
  have hb : ∀ j, j < x.size → ∃ b : UInt8, x.data.toList[j]? = some b ∧ bt x (j : Int) = (b.toNat : Int) ∧ 48 ≤ b.toNat ∧ b.toNat ≤ 57 := fun j hj => by
    obtain ⟨b, p, q⟩ := lq_at x j hj
    have := (lqd_iff x j).mp (hd j hj)
    exact ⟨b, p, q, by omega, by omega⟩
  generalize x.size = n at h1 h2 h3 hb
  match hl : x.data.toList, n, h2 with
  | [b0], 1, _ =>
    obtain ⟨c0, p0, q0, r0, t0⟩ := hb 0 (by omega)
    rw [hl] at p0; obtain rfl : b0 = c0 := Option.some.inj p0
    refine lq_at1 b0 [] _ (by omega) ?_ (by simp only [lqv, Nat.add_zero, q0]; omega)
    rw [lq_pu _ _ _ ⟨r0, t0⟩ (by omega), Lib.parseUint10]
    simp only [lqv, Nat.add_zero, q0]
    congr 1; omega
  | [b0, b1], 2, _ =>
    obtain ⟨c0, p0, q0, r0, t0⟩ := hb 0 (by omega)
    obtain ⟨c1, p1, q1, r1, t1⟩ := hb 1 (by omega)
    rw [hl] at p0 p1; obtain rfl : b0 = c0 := Option.some.inj p0; obtain rfl : b1 = c1 := Option.some.inj p1
    refine lq_at1 b0 [b1] _ (by omega) ?_ (by simp only [lqv, Nat.add_zero, Nat.zero_add, q0, q1]; omega)
    rw [lq_pu _ _ _ ⟨r0, t0⟩ (by omega), lq_pu _ _ _ ⟨r1, t1⟩ (by omega), Lib.parseUint10]
    simp only [lqv, Nat.add_zero, Nat.zero_add, q0, q1]
    congr 1; omega
  | [b0, b1, b2], 3, _ =>
    obtain ⟨c0, p0, q0, r0, t0⟩ := hb 0 (by omega)
    obtain ⟨c1, p1, q1, r1, t1⟩ := hb 1 (by omega)
    obtain ⟨c2, p2, q2, r2, t2⟩ := hb 2 (by omega)
    rw [hl] at p0 p1 p2; obtain rfl : b0 = c0 := Option.some.inj p0; obtain rfl : b1 = c1 := Option.some.inj p1; obtain rfl : b2 = c2 := Option.some.inj p2
    refine lq_at1 b0 [b1, b2] _ (by omega) ?_ (by simp only [lqv, Nat.add_zero, Nat.zero_add, q0, q1, q2]; omega)
    rw [lq_pu _ _ _ ⟨r0, t0⟩ (by omega), lq_pu _ _ _ ⟨r1, t1⟩ (by omega), lq_pu _ _ _ ⟨r2, t2⟩ (by omega), Lib.parseUint10]
    simp only [lqv, Nat.add_zero, Nat.zero_add, q0, q1, q2]
    congr 1; omega
  | [], _, h => simp only [List.length_nil] at h; omega
  | b0 :: b1 :: b2 :: b3 :: l, _, h => simp only [List.length_cons] at h; omega
theorem run_le (s : ByteArray) (a : Nat) : run s a ≤ s.size - a := rn_le s _ a
theorem run_dig (s : ByteArray) (a j : Nat) (h : j < run s a) : 48 ≤ bt s ((a + j : Nat) : Int) ∧ bt s ((a + j : Nat) : Int) ≤ 57 := (lqd_iff s (a + j)).mp (rn_dig s _ a j h)
theorem rn_run (s : ByteArray) (m a : Nat) (h : a + m ≤ s.size) : rn s m a = m ↔ m ≤ run s a := by
  have h1 := rn_cut s m (s.size - a) a (by omega)
  rw [show rn s (s.size - a) a = run s a from rfl] at h1
  rw [h1]
  split <;> omega
theorem sub_rn (s x : ByteArray) (a : Nat) (h : a + x.size ≤ s.size) (hx : ∀ j : Nat, j < x.size → bt x (j : Int) = bt s ((a + j : Nat) : Int)) : rn x x.size 0 = x.size ↔ x.size ≤ run s a := by
  have h1 := rn_eq s x a x.size 0 (fun j hj => by rw [Nat.zero_add, Nat.add_zero]; exact hx j hj)
  rw [h1, Nat.add_zero]
  exact rn_run s x.size a h
theorem sub_lqv (s x : ByteArray) (a : Nat) (hx : ∀ j : Nat, j < x.size → bt x (j : Int) = bt s ((a + j : Nat) : Int)) : ∀ k, k ≤ x.size → lqv x 0 k = lqv s a k := by
  intro k
  induction k with
  | zero => intro _; rfl
  | succ k ih =>
    intro h
    rw [lqv, lqv, ih (by omega), Nat.zero_add, hx k (by omega)]
theorem lqv_pos (s : ByteArray) (a : Nat) (h : 49 ≤ bt s (a : Int)) : ∀ k, 1 ≤ k → 0 < lqv s a k := by
  intro k
  induction k with
  | zero => intro h; omega
  | succ k ih =>
    intro _
    rw [lqv]
    rcases Nat.eq_zero_or_pos k with rfl | hk
    · rw [Nat.add_zero]; omega
    · have := ih hk; omega
/-- The power, told by the program and by places. -/
theorem lq_pow (s pw ah be : ByteArray) (E k : Nat) (hE : E < s.size) (hk : s.size + 5 ≤ k) (hs : s.size ≤ 1048576) (z : pw.size = s.size - E - 1) (hb : ∀ j : Nat, j < s.size - E - 1 → bt pw (j : Int) = bt s ((E + 1 + j : Nat) : Int)) : ∃ p q r, impl_literal.p k ah be pw = some (p, q, r, lqP s (E + 1)) ∧ (lqP s (E + 1) = true → p = ah ∧ q = be) := by
  unfold impl_literal.p
  obtain ⟨az, ab⟩ := lq_after pw
  have hmi : SLit.minus pw = decide (E + 1 < s.size ∧ bt s ((E + 1 : Nat) : Int) = 45) := by
    rw [lq_minus]
    by_cases h : 0 < pw.size
    · have h0 := hb 0 (by omega)
      rw [Nat.add_zero] at h0
      rw [show bt pw 0 = bt s ((E + 1 : Nat) : Int) from h0]
      congr 1
      simp only [eq_iff_iff]
      constructor
      · intro ⟨_, h2⟩; exact ⟨by omega, h2⟩
      · intro ⟨_, h2⟩; exact ⟨h, h2⟩
    · rw [decide_eq_false (by omega), decide_eq_false (by omega)]
  obtain ⟨mi, hmi'⟩ : ∃ mi, mi = SLit.minus pw := ⟨_, rfl⟩
  rw [← hmi'] at hmi az ab ⊢
  obtain ⟨a, ha⟩ : ∃ a, a = E + 1 + (if mi = true then 1 else 0) := ⟨_, rfl⟩
  have hP : lqP s (E + 1) = lqP2 s mi a := by
    unfold lqP
    cases mi with
    | true =>
      have := of_decide_eq_true hmi.symm
      rw [if_pos this, ha, if_pos rfl]
    | false =>
      have := of_decide_eq_false hmi.symm
      rw [if_neg this, ha, if_neg (by decide), Nat.add_zero]
  have ale : a ≤ s.size := by
    rw [ha]
    cases mi with
    | true => have := of_decide_eq_true hmi.symm; rw [if_pos rfl]; omega
    | false => rw [if_neg (by decide)]; omega
  have dz : (SLit.after pw).size = s.size - a := by rw [az, z, ha]; split <;> omega
  have db : ∀ j : Nat, j < (SLit.after pw).size → bt (SLit.after pw) (j : Int) = bt s ((a + j : Nat) : Int) := fun j hj => by
    rw [ab j hj, hb _ (by rw [dz] at hj; rw [ha] at hj; split at hj <;> (split <;> first | omega | simp_all))]
    congr 2
    rw [ha]; omega
  clear az ab hmi'
  rw [hP]
  generalize SLit.after pw = dg at dz db ⊢
  have hw := lq_wd dg (by omega) k (by omega)
  have hsr := sub_rn s dg a (by omega) db
  have rl := run_le s a
  have b0 : 0 < dg.size → bt dg 0 = bt s (a : Int) := fun h => db 0 h
  by_cases good : dg.size ≤ run s a ∧ 1 ≤ dg.size ∧ dg.size ≤ 3 ∧ (dg.size = 1 ∨ bt s (a : Int) ≠ 48)
  · obtain ⟨g1, g2, g3, g4⟩ := good
    have hr : run s a = dg.size := by omega
    have hd0 := run_dig s a 0 (by omega)
    rw [Nat.add_zero] at hd0
    have hat := lq_atoi dg g2 g3 (fun j hj => by rw [lqd_iff, db j hj]; exact run_dig s a j (by omega))
    have hv := sub_lqv s dg a db dg.size (Nat.le_refl _)
    rw [hv] at hat
    have whole : rn dg dg.size 0 = dg.size ∧ dg.size ≠ 0 ∧ (dg.size = 1 ∨ bt dg 0 ≠ 48) := ⟨hsr.mpr g1, by omega, by rw [b0 g2]; exact g4⟩
    have hz : mi = true ∧ bt s (a : Int) = 48 ↔ mi = true ∧ ((lqv s a dg.size : Nat) : Int) = 0 := by
      constructor
      · intro ⟨h1, h2⟩
        refine ⟨h1, ?_⟩
        have h3 : dg.size = 1 := by rcases g4 with h | h; exact h; exact absurd h2 h
        rw [h3]; simp only [lqv, Nat.add_zero, h2]; rfl
      · intro ⟨h1, h2⟩
        refine ⟨h1, Classical.byContradiction fun h3 => ?_⟩
        have := lqv_pos s a (by omega) dg.size g2
        omega
    rw [hat]
    simp only [hw, decide_eq_true whole, Option.bind_some]
    unfold lqP2
    rw [hr]
    by_cases q : lqv s a dg.size ≤ 400 ∧ ¬ (mi = true ∧ bt s (a : Int) = 48)
    · rw [if_pos ⟨by first | trivial | rfl, g3, by omega, by rw [← hz]; exact q.2⟩, decide_eq_true (show _ from ⟨g2, g3, by omega, q.2, q.1, by omega⟩)]
      exact ⟨_, _, _, rfl, fun _ => ⟨rfl, rfl⟩⟩
    · rw [if_neg (fun h => q ⟨by omega, by rw [hz]; exact h.2.2.2⟩), decide_eq_false (fun h => q ⟨h.2.2.2.2.1, h.2.2.2.1⟩)]
      exact ⟨_, _, _, rfl, fun h => by cases h⟩
  · have e : lqP2 s mi a = false := by
      unfold lqP2
      refine decide_eq_false fun h => good ⟨by omega, by omega, by omega, ?_⟩
      have h3 := h.2.2.1
      by_cases c : bt s (a : Int) = 48
      · left; have : ¬ 1 < run s a := fun h4 => h3 ⟨h4, c⟩
        omega
      · exact .inr c
    rw [e]
    cases hat : Lib.atoiAll dg.data.toList with
    | ok v =>
      simp only [hw, Option.bind_some]
      rw [if_neg (fun h => ?_)]
      · exact ⟨_, _, _, rfl, fun h => by cases h⟩
      · have h1 := of_decide_eq_true h.1
        refine good ⟨hsr.mp h1.1, by omega, h.2.1, ?_⟩
        have := h1.2.2
        rw [b0 (by omega)] at this
        exact this
    | _ => exact ⟨_, _, _, rfl, fun h => by cases h⟩
theorem lq_lit (s : ByteArray) (hs : s.size ≤ 1048576) (k : Nat) (hk : s.size + 5 ≤ k) : ∃ a b p, impl_literal.f k s = some (a, b, p, lqQ s) := by
  obtain ⟨E, ce⟩ := lq_cut 101 s
  obtain ⟨P, cp⟩ := lq_cut 46 (SLit.cutb 101 s).1
  unfold impl_literal.f
  rw [if_pos (by omega)]
  obtain ⟨le1, ne1, hit1, fl1, s11, b11, s12, b12⟩ := ce
  obtain ⟨le2, ne2, hit2, fl2, s21, b21, s22, b22⟩ := cp
  rw [s11] at le2 hit2 fl2 s22 b22
  generalize (SLit.cutb 46 (SLit.cutb 101 s).1).1 = ah at *
  generalize (SLit.cutb 46 (SLit.cutb 101 s).1).2.1 = be at *
  generalize (SLit.cutb 46 (SLit.cutb 101 s).1).2.2 = pt at *
  generalize (SLit.cutb 101 s).1 = bo at *
  generalize (SLit.cutb 101 s).2.1 = pw at *
  generalize (SLit.cutb 101 s).2.2 = hp at *
  have ne3 : ∀ j, j < P → bt s (j : Int) ≠ 46 := fun j hj => by have := ne2 j hj; rw [b11 j (by omega)] at this; exact this
  have hit3 : P < E → bt s (P : Int) = 46 := fun h => by have := hit2 h; rw [b11 P h] at this; exact this
  have a1 : ∀ j : Nat, j < ah.size → bt ah (j : Int) = bt s ((0 + j : Nat) : Int) := fun j hj => by rw [b21 j (by omega), b11 j (by omega), Nat.zero_add]
  have e1 : ∀ j : Nat, j < be.size → bt be (j : Int) = bt s ((P + 1 + j : Nat) : Int) := fun j hj => by rw [b22 j (by omega), b11 _ (by omega)]
  have hw := lq_wd ah (by omega) k (by omega)
  have hsr := sub_rn s ah 0 (by omega) a1
  have rl := run_le s 0
  have rd0 := fun j hj => run_dig s 0 j hj
  simp only [Nat.zero_add] at rd0
  have hrP : run s 0 ≤ P := Nat.le_of_not_lt fun h => by
    have hd := rd0 P h
    by_cases h1 : P < E
    · have := hit3 h1; omega
    · have := hit1 (by omega)
      rw [show E = P by omega] at this
      have h5 : ((101 : UInt8).toNat : Int) = 101 := rfl
      omega
  have h101 : ((101 : UInt8).toNat : Int) = 101 := rfl
  rw [h101] at hit1 ne1
  have ba : 0 < P → bt ah 0 = bt s 0 := fun h => (a1 0 (by omega)).trans (by rw [Nat.zero_add]; rfl)
  unfold impl_literal.q lqQ
  rw [hw, Option.bind_some]
  rw [s21] at hsr ⊢
  rw [s21] at hw
  by_cases q0 : run s 0 = 0 ∨ (1 < run s 0 ∧ bt s 0 = 48)
  · rw [if_pos q0, decide_eq_false (fun h => ?_), if_neg (show ¬ (false = true) by decide)]
    · exact ⟨_, _, _, rfl⟩
    · obtain ⟨h1, h2, h3⟩ := h
      have h4 := hsr.mp h1
      rw [ba (by omega)] at h3
      omega
  · rw [if_neg q0]
    by_cases q1 : P = run s 0
    · rw [decide_eq_true (show _ from ⟨hsr.mpr (by omega), by omega, by rw [ba (by omega)]; omega⟩), if_pos (show true = true from rfl), ← q1]
      by_cases q2 : P < E
      · have f46 := hit3 q2
        have id := lq_idf be (by omega) k (by omega)
        have hbr := sub_rn s be (P + 1) (by omega) e1
        rw [fl2, decide_eq_true q2, if_pos (show true = true from rfl), if_pos (show P < s.size ∧ bt s (P : Int) = 46 from ⟨by omega, f46⟩), id, Option.bind_some]
        have r1 := run_le s (P + 1)
        have rd1 := fun j hj => run_dig s (P + 1) j hj
        have hr1 : P + 1 + run s (P + 1) ≤ E := Nat.le_of_not_lt fun h => by
          have hd := rd1 (E - P - 1) (by omega)
          rw [show P + 1 + (E - P - 1) = E by omega] at hd
          have := hit1 (by omega)
          omega
        by_cases q3 : run s (P + 1) = 0
        · rw [if_pos q3, decide_eq_false (fun h => by have := hbr.mp h.1; omega), if_neg (show ¬ (false = true) by decide)]
          exact ⟨_, _, _, rfl⟩
        · rw [if_neg q3]
          by_cases q4 : P + 1 + run s (P + 1) = E
          · rw [decide_eq_true (show _ from ⟨hbr.mpr (by omega), by omega⟩), if_pos (show true = true from rfl), q4, fl1]
            unfold lqT
            by_cases q5 : E < s.size
            · rw [decide_eq_true q5, if_pos (show true = true from rfl), if_pos (show E < s.size ∧ bt s (E : Int) = 101 from ⟨q5, hit1 q5⟩)]
              obtain ⟨p, q, r, hh, _⟩ := lq_pow s pw ah be E k q5 hk hs s12 b12
              exact ⟨p, q, r, hh⟩
            · rw [decide_eq_false q5, if_neg (show ¬ (false = true) by decide), if_neg (show ¬ (E < s.size ∧ bt s (E : Int) = 101) from fun h => q5 h.1), decide_eq_true (show E = s.size by omega)]
              exact ⟨_, _, _, rfl⟩
          · have n1 := ne1 (P + 1 + run s (P + 1)) (by clear hbr hsr hit1 hit2 hit3 q0; omega)
            have n2 : ¬ (P + 1 + run s (P + 1) = s.size) := by clear hbr hsr hit1 hit2 hit3 q0; omega
            have n3 : ¬ (rn be be.size 0 = be.size ∧ be.size ≠ 0) := fun h => by
              have h6 := hbr.mp h.1
              clear hbr hsr hit1 hit2 hit3 q0
              omega
            rw [decide_eq_false n3, if_neg (show ¬ (false = true) by decide)]
            unfold lqT
            rw [if_neg (fun h => n1 h.2), decide_eq_false n2]
            exact ⟨_, _, _, rfl⟩
      · have hPE : P = E := by omega
        rw [fl2, decide_eq_false q2, if_neg (show ¬ (false = true) by decide), Option.bind_some, if_pos (show true = true from rfl), fl1]
        rw [if_neg (show ¬ (P < s.size ∧ bt s (P : Int) = 46) from fun h => by have := hit1 (by omega); rw [← hPE] at this; omega)]
        unfold lqT
        rw [hPE]
        by_cases q5 : E < s.size
        · rw [decide_eq_true q5, if_pos (show true = true from rfl), if_pos (show E < s.size ∧ bt s (E : Int) = 101 from ⟨q5, hit1 q5⟩)]
          obtain ⟨p, q, r, hh, _⟩ := lq_pow s pw ah be E k q5 hk hs s12 b12
          exact ⟨p, q, r, hh⟩
        · rw [decide_eq_false q5, if_neg (show ¬ (false = true) by decide), if_neg (show ¬ (E < s.size ∧ bt s (E : Int) = 101) from fun h => q5 h.1), decide_eq_true (show E = s.size by omega)]
          exact ⟨_, _, _, rfl⟩
    · rw [decide_eq_false (fun h => by have := hsr.mp h.1; omega), if_neg (show ¬ (false = true) by decide)]
      rw [if_neg (show ¬ (run s 0 < s.size ∧ bt s (run s 0 : Int) = 46) from fun h => ne3 _ (by omega) h.2)]
      unfold lqT
      rw [if_neg (show ¬ (run s 0 < s.size ∧ bt s (run s 0 : Int) = 101) from fun h => ne1 _ (by omega) h.2), decide_eq_false (show ¬ (run s 0 = s.size) by omega)]
      exact ⟨_, _, _, rfl⟩
theorem lqv_lt (s : ByteArray) (a : Nat) : ∀ i, (∀ j, j < i → 48 ≤ bt s ((a + j : Nat) : Int) ∧ bt s ((a + j : Nat) : Int) ≤ 57) → lqv s a i + 1 ≤ 10 ^ i := by
  intro i
  induction i with
  | zero => intro _; exact Nat.le_refl _
  | succ i ih =>
    intro h
    have h1 := ih (fun j hj => h j (by omega))
    have h2 := h i (by omega)
    rw [lqv, Nat.pow_succ]
    omega
theorem ln_run (s : ByteArray) (hs : s.size ≤ 1048576) : ∀ (m a n0 k : Nat), a + n0 + m = s.size → m < k → spec_l11Run.l0 k s (a : Int) (n0 : Int) = some (((n0 + rn s m (a + n0) : Nat)) : Int) := by
  intro m
  induction m with
  | zero =>
    intro a n0 k hi hk
    obtain ⟨k, rfl⟩ : ∃ q, k = q + 1 := ⟨k - 1, by omega⟩
    have e1 : wrap64 ((a : Int) + (n0 : Int)) = ((a + n0 : Nat) : Int) := by unfold wrap64; omega
    rw [spec_l11Run.l0, e1, if_neg (by omega)]
    rfl
  | succ m ih =>
    intro a n0 k hi hk
    obtain ⟨k, rfl⟩ : ∃ q, k = q + 1 := ⟨k - 1, by omega⟩
    have e1 : wrap64 ((a : Int) + (n0 : Int)) = ((a + n0 : Nat) : Int) := by unfold wrap64; omega
    have e2 : wrap64 ((n0 : Int) + 1) = ((n0 + 1 : Nat) : Int) := by unfold wrap64; omega
    have ed : spec_l11Digit.f (bt s ((a + n0 : Nat) : Int)) = some (lqd s (a + n0)) := by
      unfold spec_l11Digit.f lqd
      by_cases c1 : bt s ((a + n0 : Nat) : Int) ≥ 48
      · rw [if_pos c1, decide_eq_true (show 48 ≤ bt s ((a + n0 : Nat) : Int) from c1), Bool.true_and]
      · rw [if_neg c1, decide_eq_false (show ¬ 48 ≤ bt s ((a + n0 : Nat) : Int) from c1), Bool.false_and]
    rw [spec_l11Run.l0, e1, if_pos (by omega), if_pos (by omega), ed, Option.bind_some]
    by_cases hd : lqd s (a + n0) = true
    · rw [if_pos hd, e2, ih a (n0 + 1) k (by omega) (by omega), rn, if_pos hd]
      congr 2
      rw [show a + (n0 + 1) = a + n0 + 1 by omega]; omega
    · rw [if_neg hd, rn, if_neg hd]; rfl
theorem ln_runf (s : ByteArray) (hs : s.size ≤ 1048576) (a k : Nat) (ha : a ≤ s.size) (hk : s.size < k) : spec_l11Run.f k s (a : Int) = some ((run s a : Nat) : Int) := by
  have h := ln_run s hs (s.size - a) a 0 k (by omega) (by omega)
  rw [Nat.zero_add, Nat.add_zero] at h
  exact h
theorem ln_less (b0 b1 b2 : UInt8) (h0 : 48 ≤ b0.toNat ∧ b0.toNat ≤ 57) (h1 : 48 ≤ b1.toNat ∧ b1.toNat ≤ 57) (h2 : 48 ≤ b2.toNat ∧ b2.toNat ≤ 57) : Op.bytesLess [52, 48, 48] [b0, b1, b2] = decide (400 < ((b0.toNat - 48) * 10 + (b1.toNat - 48)) * 10 + (b2.toNat - 48)) := by
  have q : ∀ (n : Nat) (x y : UInt8), x.toNat = n → ((x == y) = true ↔ y.toNat = n) := fun n x y hx => by
    rw [beq_iff_eq]
    constructor
    · intro e; rw [← e, hx]
    · intro e; exact UInt8.toNat.inj (hx.trans e.symm)
  have g : ∀ (x y : UInt8), (decide (x < y) = true ↔ x.toNat < y.toNat) := fun x y => by rw [decide_eq_true_eq, UInt8.lt_iff_toNat_lt]
  rw [Bool.eq_iff_iff]
  simp only [Op.bytesLess, Bool.or_eq_true, Bool.and_eq_true, g, q 52 52 b0 rfl, q 48 48 b1 rfl, q 48 48 b2 rfl, Bool.false_eq_true, and_false, or_false, decide_eq_true_eq, show (52 : UInt8).toNat = 52 from rfl, show (48 : UInt8).toNat = 48 from rfl]
  omega
theorem ln_ext (s : ByteArray) (a : Nat) (ha : a + 3 ≤ s.size) (hd : ∀ j, j < 3 → 48 ≤ bt s ((a + j : Nat) : Int) ∧ bt s ((a + j : Nat) : Int) ≤ 57) : Op.bytesLess ([52, 48, 48] : List UInt8) (s.extract a (a + 3)).toList = decide (400 < lqv s a 3) := by
  obtain ⟨z1, z2⟩ := lq_extract s a (a + 3) (by omega) ha
  generalize s.extract a (a + 3) = x at z1 z2
  have h2 : x.data.toList.length = x.size := Array.length_toList
  rw [Lib.toList_data]
  obtain ⟨b0, p0, q0⟩ := lq_at x 0 (by omega)
  obtain ⟨b1, p1, q1⟩ := lq_at x 1 (by omega)
  obtain ⟨b2, p2, q2⟩ := lq_at x 2 (by omega)
  rw [z2 0 (by omega)] at q0
  rw [z2 1 (by omega)] at q1
  rw [z2 2 (by omega)] at q2
  have d0 := hd 0 (by omega)
  have d1 := hd 1 (by omega)
  have d2 := hd 2 (by omega)
  match hl : x.data.toList, (show x.data.toList.length = 3 by omega) with
  | [c0, c1, c2], _ =>
    rw [hl] at p0 p1 p2
    obtain rfl : c0 = b0 := Option.some.inj p0
    obtain rfl : c1 = b1 := Option.some.inj p1
    obtain rfl : c2 = b2 := Option.some.inj p2
    rw [ln_less c0 c1 c2 (by omega) (by omega) (by omega)]
    congr 2
    simp only [lqv, q0, q1, q2]
    omega
  | [], h => simp at h
  | [_], h => simp at h
  | [_, _], h => simp at h
  | _ :: _ :: _ :: _ :: _, h => simp at h
theorem ln_tail (s : ByteArray) (a : Nat) (h1 : 1 ≤ run s a) (h3 : run s a ≤ 3) (e2 : wrap64 ((a : Int) + ((run s a : Nat) : Int)) = ((a + run s a : Nat) : Int)) (ha : a + run s a ≤ s.size) : (if ((run s a : Nat) : Int) = 3 then (if (a : Int) ≤ (wrap64 ((a : Int) + ((run s a : Nat) : Int))) then (if (wrap64 ((a : Int) + ((run s a : Nat) : Int))) ≤ (s.size : Int) then (if (Op.bytesLess ([52, 48, 48] : List UInt8) ((s.extract ((a : Int)).toNat ((wrap64 ((a : Int) + ((run s a : Nat) : Int))) : Int).toNat).toList)) = true then (some false) else (some ((wrap64 ((a : Int) + ((run s a : Nat) : Int))) == (s.size : Int)))) else (none)) else (none)) else (some ((wrap64 ((a : Int) + ((run s a : Nat) : Int))) == (s.size : Int)))) = some (decide (lqv s a (run s a) ≤ 400 ∧ a + run s a = s.size)) := by
  rw [e2]
  clear e2
  have hd := fun j hj => run_dig s a j hj
  generalize run s a = r at *
  have last : ((((a + r : Nat) : Int) == (s.size : Int))) = decide (a + r = s.size) := by
    by_cases g : a + r = s.size
    · rw [decide_eq_true g]; exact beq_iff_eq.mpr (by omega)
    · rw [decide_eq_false g]; exact beq_eq_false_iff_ne.mpr (by omega)
  rw [last]
  by_cases c : r = 3
  · subst c
    have p1 : (a : Int) ≤ ((a + 3 : Nat) : Int) := by omega
    have p2 : ((a + 3 : Nat) : Int) ≤ (s.size : Int) := by omega
    rw [if_pos (show ((3 : Nat) : Int) = 3 from rfl), if_pos p1, if_pos p2, Int.toNat_natCast, Int.toNat_natCast, ln_ext s a ha hd]
    by_cases g : 400 < lqv s a 3
    · rw [if_pos (decide_eq_true g), decide_eq_false (fun h => by omega)]
    · rw [if_neg (by rw [decide_eq_true_eq]; exact g)]
      congr 1
      rw [decide_eq_decide]
      exact ⟨fun h => ⟨by omega, h⟩, fun h => h.2⟩
  · have hv := lqv_lt s a r hd
    have hv2 : (10 : Nat) ^ r ≤ 10 ^ 2 := Nat.pow_le_pow_right (by decide) (by omega)
    have hv3 : lqv s a r ≤ 400 := by
      have h6 : (10 : Nat) ^ 2 = 100 := rfl
      rw [h6] at hv2
      generalize (10 : Nat) ^ r = z at hv hv2
      omega
    rw [if_neg (show ¬ ((r : Nat) : Int) = 3 by omega)]
    congr 1
    rw [decide_eq_decide]
    exact ⟨fun h => ⟨hv3, h⟩, fun h => h.2⟩
theorem ln_P2 (s : ByteArray) (mi : Bool) (a : Nat) (h1 : 1 ≤ run s a) (h3 : run s a ≤ 3) (hx : ¬ (1 < run s a ∧ bt s (a : Int) = 48)) (hy : ¬ (mi = true ∧ bt s (a : Int) = 48)) : decide (lqv s a (run s a) ≤ 400 ∧ a + run s a = s.size) = lqP2 s mi a := by
  unfold lqP2
  rw [decide_eq_decide]
  exact ⟨fun h => ⟨h1, h3, hx, hy, h.1, h.2⟩, fun h => h.2.2.2.2⟩
theorem ln_j4 (s : ByteArray) (mi : Bool) (a : Nat) (k : Nat) (hs : s.size ≤ 1048576) (ha : a + (if mi = true then 1 else 0) ≤ s.size) (hk : s.size + 5 ≤ k) : spec_LangNumOk.j4 k s (a : Int) mi = some (lqP2 s mi (a + (if mi = true then 1 else 0))) := by
  obtain ⟨k, rfl⟩ : ∃ q, k = q + 1 := ⟨k - 1, by omega⟩
  rw [spec_LangNumOk.j4]
  have main : ∀ b : Nat, b ≤ s.size → b = a + (if mi = true then 1 else 0) → (∀ h48 : Option Bool, (1 ≤ run s b → run s b ≤ 3 → bt s (b : Int) = 48 → h48 = (if 1 < run s b ∨ mi = true then some false else some (decide (lqv s b (run s b) ≤ 400 ∧ b + run s b = s.size)))) → ((if ((run s b : Nat) : Int) = 0 then (some false) else (if ((run s b : Nat) : Int) > 3 then (some false) else (if 0 ≤ (b : Int) then (if (b : Int) < (s.size : Int) then (if (bt s (b : Int)) = 48 then h48 else (if ((run s b : Nat) : Int) = 3 then (if (b : Int) ≤ (wrap64 ((b : Int) + ((run s b : Nat) : Int))) then (if (wrap64 ((b : Int) + ((run s b : Nat) : Int))) ≤ (s.size : Int) then (if (Op.bytesLess ([52, 48, 48] : List UInt8) ((s.extract ((b : Int)).toNat ((wrap64 ((b : Int) + ((run s b : Nat) : Int))) : Int).toNat).toList)) = true then (some false) else (some ((wrap64 ((b : Int) + ((run s b : Nat) : Int))) == (s.size : Int)))) else (none)) else (none)) else (some ((wrap64 ((b : Int) + ((run s b : Nat) : Int))) == (s.size : Int))))) else (none)) else (none)))) = some (lqP2 s mi b))) := fun b hb _ h48 hh => by
    have rl := run_le s b
    have bad : ¬ (1 ≤ run s b ∧ run s b ≤ 3 ∧ ¬ (1 < run s b ∧ bt s (b : Int) = 48) ∧ ¬ (mi = true ∧ bt s (b : Int) = 48)) → some false = some (lqP2 s mi b) := fun h => congrArg some (decide_eq_false (fun g => h ⟨g.1, g.2.1, g.2.2.1, g.2.2.2.1⟩)).symm
    by_cases c0 : ((run s b : Nat) : Int) = 0
    · rw [if_pos c0]; exact bad (by omega)
    rw [if_neg c0]
    by_cases c3 : ((run s b : Nat) : Int) > 3
    · rw [if_pos c3]; exact bad (by omega)
    rw [if_neg c3]
    have p1 : (0 : Int) ≤ (b : Int) := Int.natCast_nonneg _
    have p2 : (b : Int) < (s.size : Int) := by omega
    have g1 : 1 ≤ run s b := by omega
    have g3 : run s b ≤ 3 := by omega
    have g4 : b + run s b ≤ s.size := by omega
    rw [if_pos p1, if_pos p2]
    have e2 : wrap64 ((b : Int) + ((run s b : Nat) : Int)) = ((b + run s b : Nat) : Int) := by clear hh bad; unfold wrap64; omega
    by_cases cb : bt s (b : Int) = 48
    · rw [if_pos cb, hh g1 g3 cb]
      by_cases c1 : 1 < run s b ∨ mi = true
      · rw [if_pos c1]
        exact bad (fun h => c1.elim (fun g => h.2.2.1 ⟨g, cb⟩) (fun g => h.2.2.2 ⟨g, cb⟩))
      · rw [if_neg c1, ln_P2 s mi b g1 g3 (fun h => c1 (.inl h.1)) (fun h => c1 (.inr h.1))]
    · rw [if_neg cb, ln_tail s b g1 g3 e2 g4, ln_P2 s mi b g1 g3 (fun h => cb h.2) (fun h => cb h.2)]
  cases mi with
  | true =>
    rw [if_pos rfl] at ha
    have e1 : wrap64 ((a : Int) + 1) = ((a + 1 : Nat) : Int) := by clear main; unfold wrap64; omega
    rw [if_pos rfl, e1, ln_runf s hs (a + 1) k ha (by clear main e1; omega), Option.bind_some]
    refine main (a + 1) ha (by rw [if_pos rfl]) _ (fun _ _ _ => ?_)
    rw [if_pos (show 1 < run s (a + 1) ∨ true = true from .inr rfl)]
    split <;> rfl
  | false =>
    rw [if_neg (by decide), Nat.add_zero] at ha
    rw [if_neg (by decide), ln_runf s hs a k ha (by clear main; omega), Option.bind_some]
    refine main a ha (by rw [if_neg (by decide)]; rfl) _ (fun g1 g3 cb => ?_)
    have rl := run_le s a
    by_cases c1 : 1 < run s a
    · rw [if_pos (show ((run s a : Nat) : Int) > 1 by clear main; omega), if_pos (show 1 < run s a ∨ false = true from .inl c1)]
    · rw [if_neg (show ¬ ((run s a : Nat) : Int) > 1 by clear main; omega), if_neg (show ¬ (1 < run s a ∨ false = true) from fun h => h.elim c1 (by decide))]
      have g4 : a + run s a ≤ s.size := by clear main; omega
      have e2 : wrap64 ((a : Int) + ((run s a : Nat) : Int)) = ((a + run s a : Nat) : Int) := by clear main; unfold wrap64; omega
      exact ln_tail s a g1 g3 e2 g4
theorem ln_j3 (s : ByteArray) (a k : Nat) (hs : s.size ≤ 1048576) (ha : a < s.size) (hk : s.size + 7 ≤ k) : spec_LangNumOk.j3 k s (a : Int) true = some (lqP s (a + 1)) := by
  obtain ⟨k, rfl⟩ : ∃ q, k = q + 1 := ⟨k - 1, by omega⟩
  have g1 : s.size + 5 ≤ k := by omega
  have g2 : a + 1 ≤ s.size := ha
  have p1 : (0 : Int) ≤ ((a + 1 : Nat) : Int) := Int.natCast_nonneg _
  have e1 : wrap64 ((a : Int) + 1) = ((a + 1 : Nat) : Int) := by unfold wrap64; omega
  rw [spec_LangNumOk.j3, if_pos rfl, e1]
  clear e1
  unfold lqP
  by_cases c : a + 1 < s.size
  · rw [if_pos (show ((a + 1 : Nat) : Int) < (s.size : Int) by omega), if_pos p1]
    by_cases cb : bt s ((a + 1 : Nat) : Int) = 45
    · rw [beq_iff_eq.mpr cb, if_pos (show a + 1 < s.size ∧ bt s ((a + 1 : Nat) : Int) = 45 from ⟨c, cb⟩), ln_j4 s true (a + 1) k hs (by rw [if_pos rfl]; exact c) g1, if_pos rfl]
    · rw [beq_eq_false_iff_ne.mpr cb, if_neg (show ¬ (a + 1 < s.size ∧ bt s ((a + 1 : Nat) : Int) = 45) from fun h => cb h.2), ln_j4 s false (a + 1) k hs (by rw [if_neg (by decide)]; exact g2) g1, if_neg (by decide)]
  · rw [if_neg (show ¬ ((a + 1 : Nat) : Int) < (s.size : Int) by omega), if_neg (show ¬ (a + 1 < s.size ∧ bt s ((a + 1 : Nat) : Int) = 45) from fun h => c h.1), ln_j4 s false (a + 1) k hs (by rw [if_neg (by decide)]; exact g2) g1, if_neg (by decide)]
theorem ln_j2 (s : ByteArray) (a k : Nat) (hs : s.size ≤ 1048576) (ha : a ≤ s.size) (hk : s.size + 9 ≤ k) : spec_LangNumOk.j2 k s (a : Int) = some (lqT s a) := by
  obtain ⟨k, rfl⟩ : ∃ q, k = q + 2 := ⟨k - 2, by omega⟩
  have g1 : s.size + 7 ≤ k + 1 := by omega
  rw [show k + 2 = (k + 1) + 1 from rfl, spec_LangNumOk.j2]
  have no : spec_LangNumOk.j3 (k + 1) s (a : Int) false = some (decide (a = s.size)) := by
    rw [spec_LangNumOk.j3, if_neg (show ¬ (false = true) by decide)]
    by_cases g : a = s.size
    · rw [decide_eq_true g]; exact congrArg some (beq_iff_eq.mpr (by omega))
    · rw [decide_eq_false g]; exact congrArg some (beq_eq_false_iff_ne.mpr (by omega))
  unfold lqT
  by_cases c : a < s.size
  · rw [if_pos (show (a : Int) < (s.size : Int) by omega), if_pos (show (0 : Int) ≤ (a : Int) from Int.natCast_nonneg _)]
    by_cases cb : bt s (a : Int) = 101
    · rw [beq_iff_eq.mpr cb, if_pos (show a < s.size ∧ bt s (a : Int) = 101 from ⟨c, cb⟩)]
      exact ln_j3 s a (k + 1) hs c g1
    · rw [beq_eq_false_iff_ne.mpr cb, if_neg (show ¬ (a < s.size ∧ bt s (a : Int) = 101) from fun h => cb h.2)]
      exact no
  · rw [if_neg (show ¬ (a : Int) < (s.size : Int) by omega), if_neg (show ¬ (a < s.size ∧ bt s (a : Int) = 101) from fun h => c h.1)]
    exact no
theorem ln_j0 (s : ByteArray) (hs : s.size ≤ 1048576) (k : Nat) (hk : s.size + 12 ≤ k) (h : ¬ (run s 0 = 0 ∨ (1 < run s 0 ∧ bt s 0 = 48))) : spec_LangNumOk.j0 k s ((run s 0 : Nat) : Int) false = some (lqQ s) := by
  obtain ⟨k, rfl⟩ : ∃ q, k = q + 2 := ⟨k - 2, by omega⟩
  have rl := run_le s 0
  have g1 : s.size + 9 ≤ k := by omega
  have g2 : s.size < k := by omega
  have g0 : run s 0 ≤ s.size := by omega
  rw [show k + 2 = (k + 1) + 1 from rfl, spec_LangNumOk.j0, if_neg (show ¬ (false = true) by decide)]
  unfold lqQ
  rw [if_neg h]
  by_cases c : run s 0 < s.size
  · rw [if_pos (show ((run s 0 : Nat) : Int) < (s.size : Int) by omega), if_pos (show (0 : Int) ≤ ((run s 0 : Nat) : Int) from Int.natCast_nonneg _), spec_LangNumOk.j1]
    by_cases cb : bt s ((run s 0 : Nat) : Int) = 46
    · have rl1 := run_le s (run s 0 + 1)
      have p4 : run s 0 + 1 + run s (run s 0 + 1) ≤ s.size := by omega
      have e1 : wrap64 (((run s 0 : Nat) : Int) + 1) = ((run s 0 + 1 : Nat) : Int) := by clear h; unfold wrap64; omega
      have e2 : wrap64 (((run s 0 + 1 : Nat) : Int) + ((run s (run s 0 + 1) : Nat) : Int)) = ((run s 0 + 1 + run s (run s 0 + 1) : Nat) : Int) := by clear h e1; unfold wrap64; omega
      rw [beq_iff_eq.mpr cb, if_pos rfl, e1, ln_runf s hs (run s 0 + 1) k c g2, Option.bind_some, if_pos (show run s 0 < s.size ∧ bt s (run s 0 : Int) = 46 from ⟨c, cb⟩)]
      by_cases c0 : run s (run s 0 + 1) = 0
      · have c0i : ((run s (run s 0 + 1) : Nat) : Int) = 0 := by rw [c0]; rfl
        rw [if_pos c0, if_pos c0i]
      · have c0i : ¬ ((run s (run s 0 + 1) : Nat) : Int) = 0 := fun h => c0 (Int.natCast_eq_zero.mp h)
        rw [if_neg c0, if_neg c0i, e2]
        exact ln_j2 s _ k hs p4 g1
    · rw [beq_eq_false_iff_ne.mpr cb, if_neg (show ¬ (false = true) by decide), if_neg (show ¬ (run s 0 < s.size ∧ bt s (run s 0 : Int) = 46) from fun h => cb h.2)]
      exact ln_j2 s _ k hs g0 g1
  · rw [if_neg (show ¬ ((run s 0 : Nat) : Int) < (s.size : Int) by omega), spec_LangNumOk.j1, if_neg (show ¬ (false = true) by decide), if_neg (show ¬ (run s 0 < s.size ∧ bt s (run s 0 : Int) = 46) from fun h => c h.1)]
    exact ln_j2 s _ k hs g0 g1
theorem ln_all (s : ByteArray) (hs : s.size ≤ 1048576) (k : Nat) (hk : s.size + 14 ≤ k) : spec_LangNumOk.f k s = some (decide (s.size ≤ 60) && lqQ s) := by
  obtain ⟨k1, hk1⟩ : ∃ q, k = q + 1 := ⟨k - 1, by omega⟩
  have g1 : s.size + 12 ≤ k := by omega
  have rl := run_le s 0
  unfold spec_LangNumOk.f
  rw [show spec_l11Run.f k s 0 = some ((run s 0 : Nat) : Int) from ln_runf s hs 0 k (by omega) (by omega), Option.bind_some]
  have bad : spec_LangNumOk.j0 k s ((run s 0 : Nat) : Int) true = some false := by rw [hk1, spec_LangNumOk.j0, if_pos rfl]
  by_cases c6 : s.size ≤ 60
  · rw [if_neg (show ¬ (s.size : Int) > 60 by omega), decide_eq_true c6, Bool.true_and]
    have no : (run s 0 = 0 ∨ (1 < run s 0 ∧ bt s 0 = 48)) → some false = some (lqQ s) := fun h => by unfold lqQ; rw [if_pos h]
    by_cases c0 : run s 0 = 0
    · rw [if_pos (show ((run s 0 : Nat) : Int) = 0 by omega), bad]; exact no (.inl c0)
    · rw [if_neg (show ¬ ((run s 0 : Nat) : Int) = 0 by omega)]
      by_cases c1 : 1 < run s 0
      · rw [if_pos (show ((run s 0 : Nat) : Int) > 1 by omega), if_pos (show (0 : Int) < (s.size : Int) by omega)]
        by_cases cb : bt s 0 = 48
        · rw [beq_iff_eq.mpr cb, bad]; exact no (.inr ⟨c1, cb⟩)
        · rw [beq_eq_false_iff_ne.mpr cb]; exact ln_j0 s hs k g1 (fun h => h.elim c0 (fun g => cb g.2))
      · rw [if_neg (show ¬ ((run s 0 : Nat) : Int) > 1 by omega)]; exact ln_j0 s hs k g1 (fun h => h.elim c0 (fun g => c1 g.1))
  · rw [if_pos (show (s.size : Int) > 60 by omega), bad, decide_eq_false c6, Bool.false_and]
theorem FnExactLangNumOk : laws_FnExactLangNumOk.Pure := by
  intro s hs
  refine ⟨s.size + 40, ?_⟩
  unfold laws_FnExactLangNumOk.f
  by_cases c : (s.size : Int) > 1048576
  · rw [if_pos c]
  · rw [if_neg c]
    obtain ⟨a, b, p, hi⟩ := lq_lit s (by omega) (s.size + 40) (by omega)
    unfold impl_LangNumOk.f impl_DecOk.f
    rw [hi, ln_all s (by omega) (s.size + 40) (by omega)]
    simp only [Option.bind_some]
    by_cases c6 : s.size ≤ 60
    · rw [decide_eq_true (show (s.size : Int) ≤ 60 by omega), decide_eq_true c6]
      cases lqQ s <;> rfl
    · rw [decide_eq_false (show ¬ (s.size : Int) ≤ 60 by omega), decide_eq_false c6]
      cases lqQ s <;> rfl
end Go.Proofs.YtmdeolonjmjmgaaDoor.Pure
