/- Rows of whole numbers that a call made and that may hold more cells than their capacity tells (what slices.Clip leaves). Plain facts on memory; no condition. -/
import Derived.Test.YtmdeolonjmjmgaaDoorWMore
import Derived.Test.YtmdeolonjmjmgaaDoorWNEv
namespace Go.Proofs.YtmdeolonjmjmgaaDoor.MX
open Go.RowKit Go.Proofs.YtmdeolonjmjmgaaDoorW.PrintWords Go.Proofs.YtmdeolonjmjmgaaDoorW.PrintLast Go.Proofs.YtmdeolonjmjmgaaDoorW.PrintMore
set_option linter.unusedVariables false
/-- A row of ints of the call's own; its block may go on behind its capacity. -/
def XOwn (w : World) (base : Nat) (e : Nat) (v : Value) (xs : List Int) : Prop :=
  (v = .slice none 0 0 ∧ xs = []) ∨
  ∃ g cap cur, v = .slice (some ⟨g, 0, none⟩) xs.length cap ∧ base ≤ g ∧ w.heap[g]? = some (.cells cur e (0, 0)) ∧ xs.length ≤ cap ∧ cap ≤ maxLen ∧ cap ≤ cur.size ∧ cur.toList.take xs.length = encs (Value.int .i64) xs
def XR (_d : Kd Int) (e : Nat) (w : World) (base : Nat) (ok : Nat → Prop) (v : Value) (xs : List Int) : Prop := (∀ k, v.ownBlock = some k → ok k) ∧ XOwn w base e v xs
section
variable {d d' : Kd Int} {e e' : Nat} {w w1 W W2 : World} {base b : Nat} {ok ok' ok1 oku okv : Nat → Prop} {v u : Value} {xs ys : List Int}
theorem XR_of (h : (Kd.int .i64).R e w base ok v xs) : XR d e w base ok v xs := by
  refine ⟨h.1, ?_⟩
  obtain ⟨hl, ⟨hv, h0⟩ | ⟨g, cap, cur, hv, hb, hg, hn, hc, hs, ht⟩⟩ := Kd.own_of_R (h1 := fun _ => rfl) h
  · exact .inl ⟨hv, List.eq_nil_of_length_eq_zero h0⟩
  · exact .inr ⟨g, cap, cur, hv, hb, hg, hn, hc, by omega, by rw [Nat.mul_one] at ht; exact ht⟩
theorem XR_mono (h : XR d e w base ok v xs) (hok : ∀ k, ok k → ok' k) : XR d e w base ok' v xs := ⟨fun k hk => hok k (h.1 k hk), h.2⟩
theorem XR_base (h : XR d e w base ok v xs) : ∀ k, v.ownBlock = some k → base ≤ k := by
  intro k hk
  rcases h.2 with ⟨rfl, _⟩ | ⟨g, cap, cur, rfl, hb, _⟩
  · simp [Value.ownBlock] at hk
  · simp [Value.ownBlock] at hk; omega
theorem XR_lt (h : XR d e w base ok v xs) : ∀ k, v.ownBlock = some k → k < w.heap.size := by
  intro k hk
  rcases h.2 with ⟨rfl, _⟩ | ⟨g, cap, cur, rfl, _, hg, _⟩
  · simp [Value.ownBlock] at hk
  · simp [Value.ownBlock] at hk; have := blk_lt hg; omega
theorem XR_step (h : XR d e w base ok v xs) (hm : ∀ k, ok k → k < w.heap.size → w1.heap[k]? = w.heap[k]?) : XR d e w1 base ok v xs := by
  refine ⟨h.1, ?_⟩
  rcases h.2 with ⟨hv, hx⟩ | ⟨g, cap, cur, hv, hb, hg, r⟩
  · exact .inl ⟨hv, hx⟩
  · exact .inr ⟨g, cap, cur, hv, hb, (hm g (h.1 g (by rw [hv]; rfl)) (blk_lt hg)).trans hg, r⟩
theorem XR_below (h : XR d e w base ok v xs) (hb : Below w.heap.size w w1) : XR d e w1 base ok v xs := XR_step h (fun k _ hk => hb.block k hk)
theorem XR_alloc (h : XR d e w base ok v xs) (o : Obj) : XR d e (w.alloc o) base ok v xs := XR_below h (below_alloc (Below.refl _ _) o)
theorem XR_drewN (h : XR d e w base ok v xs) (m : Nat) : XR d e (w.drewN m) base ok v xs := XR_below h (pw_below_drewN (Below.refl _ _) m)
theorem XR_drew (h : XR d e w base ok v xs) : XR d e w.drew base ok v xs := XR_below h (below_drew (Below.refl _ _))
theorem XR_own (h : XR d e w base ok v xs) : w.ownsRow base e 1 v xs.length (encs (Value.int .i64) xs) ∨ 0 < xs.length ∨ True := .inr (.inr trivial)
theorem XR_reads (h : XR d e w base ok v xs) : ∃ A c, v = .slice A xs.length c ∧ xs.length ≤ c ∧ (Kd.int .i64).C w A xs.length xs := by
  rcases h.2 with ⟨hv, hx⟩ | ⟨g, cap, cur, hv, hb, hg, hn, hc, hs, ht⟩
  · subst hx; exact ⟨none, 0, hv, Nat.le_refl _, Kd.C_of_reads (d := (0 : Int)) (h1 := fun _ => rfl) ⟨rfl, by simp, fun h => absurd h (by simp)⟩⟩
  · refine ⟨some ⟨g, 0, none⟩, cap, hv, hn, Kd.C_of_reads (d := (0 : Int)) (h1 := fun _ => rfl) ⟨rfl, by unfold maxLen at hc; omega, fun hp => ⟨⟨g, 0, none⟩, rfl, fun j hj => ?_⟩⟩⟩
    rw [add_plain, blk_cell hg j]
    have h2 : (cur.toList.take xs.length)[j]? = some (.int .i64 (xs.getD j 0)) := by rw [ht]; exact encs_get (d := (0 : Int)) xs j hj
    rw [List.getElem?_take_of_lt hj] at h2
    simpa using h2
theorem XR_slice (h : XR d e w base ok v xs) : ∃ A c, v = .slice A xs.length c := by
  obtain ⟨A, c, he, _⟩ := XR_reads h; exact ⟨A, c, he⟩
theorem XR_far (h : XR d e w base ok v xs) {p : Addr} (hok : ∀ k, ok k → k ≠ p.block) (u : Value) : XR d e (w.setCell p u) base ok v xs := XR_step h (fun k ho _ => Below.heap_setCell w p u k (hok k ho))
theorem XR_bound (h : XR d e w base ok v xs) : XR d e w base (fun k => ok k ∧ base ≤ k ∧ k < w.heap.size ∧ ∃ cells, w.heap[k]? = some (.cells cells e (0, 0))) v xs := by
  refine ⟨fun k hk => ⟨h.1 k hk, XR_base h k hk, XR_lt h k hk, ?_⟩, h.2⟩
  rcases h.2 with ⟨rfl, _⟩ | ⟨g, cap, cur, rfl, _, hg, _⟩
  · simp [Value.ownBlock] at hk
  · simp [Value.ownBlock] at hk; subst hk; exact ⟨cur, hg⟩
theorem XR_lower {base' : Nat} (h : XR d e w base ok v xs) (hb : base' ≤ base) : XR d e w base' ok v xs := by
  refine ⟨h.1, ?_⟩
  rcases h.2 with hv | ⟨g, cap, cur, hv, hbg, r⟩
  · exact .inl hv
  · exact .inr ⟨g, cap, cur, hv, by omega, r⟩
theorem XR_elder (hu : XR d' e' W b oku u ys) (h : XR d e w1 W.heap.size okv v xs) (hb : Below W.heap.size W w1) : XR d' e' w1 b (fun k => oku k ∧ some k ≠ v.ownBlock) u ys := by
  refine XR_mono (XR_below (XR_bound hu) hb) (fun k hk => ⟨hk.1, fun e => ?_⟩)
  have := XR_base h k e.symm
  omega
theorem XR_new {b0 : Nat} {d0 : Kd Int} {e0 : Nat} {ok0 : Nat → Prop} (h : XR d e w W.heap.size ok v xs) (ho : XR d0 e0 W b0 ok0 u ys) : XR d e w W.heap.size (fun k => ok k ∧ some k ≠ u.ownBlock) v xs :=
  XR_mono (XR_bound h) (fun k hk => ⟨hk.1, fun e => by have := XR_lt ho k e.symm; omega⟩)
theorem XR_types (h : XR d e w base ok v xs) {g t : Nat} {cells : Array Value} (hb : w.heap[g]? = some (.cells cells t (0, 0))) (ht : ∀ q, q ∈ e :: d.E → q ≠ t) : XR d e w base (fun k => ok k ∧ k ≠ g) v xs := by
  refine XR_mono (XR_bound h) (fun k hk => ⟨hk.1, ?_⟩)
  rintro rfl
  obtain ⟨_, _, _, cells2, hc⟩ := hk
  rw [hb] at hc
  injection hc with hc
  injection hc with _ hc2
  exact ht e (by simp) hc2.symm
theorem XR_ne (h : XR d e w base ok v xs) {g t : Nat} {cells : Array Value} (hb : w.heap[g]? = some (.cells cells t (0, 0))) (ht : e ≠ t) : some g ≠ v.ownBlock := by
  intro hk
  have := (XR_bound h).1 g hk.symm
  obtain ⟨_, _, _, cells2, hc⟩ := this
  rw [hb] at hc
  injection hc with hc
  injection hc with _ hc2
  exact ht hc2.symm
theorem XR_keptB {S : Nat → Prop} (h : XR d e W base ok v xs) (hk : Kept W W2 S) (hne : ∀ k, ok k → ¬ S k) : XR d e W2 base (fun k => ok k ∧ (¬ S k ∧ k < W.heap.size)) v xs := by
  have h2 := XR_bound h
  exact XR_mono (XR_step h2 (fun k ho hlt => hk.2 k hlt (hne k ho.1))) (fun k hk => ⟨hk.1, hne k hk.1, hk.2.2.1⟩)
theorem XR_told {N : Nat} (h : XR d e w1 base (fun k => ok k ∧ k < N) u xs) (hbase : ∀ k, v.ownBlock = some k → N ≤ k) : XR d e w1 base (fun k => (ok k ∧ some k ≠ v.ownBlock) ∧ k < N) u xs :=
  XR_mono h (fun k hk => ⟨⟨hk.1, fun e => by have := hbase k e.symm; omega⟩, hk.2⟩)
theorem XR_tight (hE : d.E = []) (h : XR d e w base ok v xs) : XR d e w base (fun k => some k = v.ownBlock) v xs := ⟨fun k hk => hk.symm, h.2⟩
theorem XR_reok (hE : d.E = []) (h : XR d e W base ok1 v xs) (hok : ∀ k, v.ownBlock = some k → ok k) : XR d e W base ok v xs := ⟨hok, h.2⟩
theorem XR_old (hu : XR d e W base ok u xs) (hb : Below W.heap.size W w1) : XR d e w1 base (fun k => ok k ∧ k < W.heap.size) u xs :=
  XR_mono (XR_below (XR_bound hu) hb) (fun _ h => ⟨h.1, h.2.2.1⟩)
theorem XR_nil (d : Kd Int) (e : Nat) (w : World) (base : Nat) (ok : Nat → Prop) : XR d e w base ok (.slice none 0 0) [] := ⟨fun k hk => by simp [Value.ownBlock] at hk, .inl ⟨rfl, rfl⟩⟩
theorem XR_newM {M : Nat → Prop} (h : XR d e w1 W.heap.size ok v xs) (hle : w.heap.size ≤ W.heap.size) (hM : ∀ k, w.heap.size ≤ k → M k) : XR d e w1 W.heap.size (fun k => M k ∧ ok k) v xs := XR_mono (XR_bound h) (fun k hk => ⟨hM k (Nat.le_trans hle hk.2.1), hk.1⟩)
theorem XR_form (h : XR d e w base ok v xs) (hp : 0 < xs.length) : ∃ g cap, v = .slice (some ⟨g, 0, none⟩) xs.length cap ∧ base ≤ g ∧ g < w.heap.size ∧ ∃ cells, w.heap[g]? = some (.cells cells e (0, 0)) := by
  rcases h.2 with ⟨_, hx⟩ | ⟨g, cap, cur, hv, hb, hg, _⟩
  · subst hx; simp at hp
  · exact ⟨g, cap, hv, hb, blk_lt hg, cur, hg⟩
theorem XR_celln {g n cap : Nat} (z : Int) (h : XR d e W base ok (.slice (some ⟨g, 0, none⟩) n cap) xs) (i : Int) (h0 : 0 ≤ i) (hi : i < n) : W.cell? ⟨g, i.toNat, none⟩ = some (.int .i64 (rdOf z xs i)) ∧ W.frozen? ⟨g, i.toNat, none⟩ = false := by
  rcases h.2 with ⟨hv, _⟩ | ⟨g', cap', cur, hv, hb, hg, hn, hc, hs, ht⟩
  · cases hv
  · injection hv with e1 e2 e3
    injection e1 with e1
    injection e1 with e1
    subst e1 e2 e3
    refine ⟨?_, blk_frozen hg _⟩
    rw [blk_cell hg]
    have hj : i.toNat < xs.length := by omega
    have h2 : (cur.toList.take xs.length)[i.toNat]? = some (.int .i64 (xs.getD i.toNat z)) := by rw [ht]; exact encs_get (d := z) xs _ hj
    rw [List.getElem?_take_of_lt hj] at h2
    simpa [rdOf] using h2
theorem XR_putg {g n cap : Nat} (h : XR d e W base ok (.slice (some ⟨g, 0, none⟩) n cap) xs) (i : Int) (x : Int) : XR d e (W.setCell ⟨g, i.toNat, none⟩ (.int .i64 x)) base ok (.slice (some ⟨g, 0, none⟩) n cap) (xs.set i.toNat x) ∧ W.grownBy (W.setCell ⟨g, i.toNat, none⟩ (.int .i64 x)) (some g) := by
  rcases h.2 with ⟨hv, _⟩ | ⟨g', cap', cur, hv, hb, hg, hn, hc, hs, ht⟩
  · cases hv
  · injection hv with e1 e2 e3
    injection e1 with e1
    injection e1 with e1
    subst e1 e2 e3
    refine ⟨⟨h.1, .inr ⟨g, cap, cur.setIfInBounds i.toNat (.int .i64 x), by rw [List.length_set], hb, ?_, by rw [List.length_set]; exact hn, hc, by simpa using hs, ?_⟩⟩, ?_⟩
    · exact blk_set hg _ _
    · rw [List.length_set]
      simp only [Array.toList_setIfInBounds]
      rw [List.take_set, ht]
      simp [encs, List.map_set]
    · exact ⟨rfl, rfl, rfl, by simp, fun k hk hne => Below.heap_setCell W _ _ k (fun e => hne (by rw [e]))⟩
theorem XR_V {base' : Nat} (h : XR (Kd.int .i64) e W base ok v xs) : Kd.V (Kd.int .i64) e W base' ok v xs := by
  obtain ⟨A, c, hv, hle, hC⟩ := XR_reads h
  subst hv
  refine ⟨A, c, rfl, hle, ?_⟩
  intro W' hW'
  have := XR_reads (XR_step (w1 := W') h (fun k ho hlt => hW' k ho hlt))
  obtain ⟨A', c', hv', _, hC'⟩ := this
  injection hv' with e1 e2 e3
  subst e1; exact hC'
theorem XR_reads' {A : Option Addr} {n c : Nat} (h : XR d e w base ok (.slice A n c) xs) : n = xs.length ∧ n ≤ c ∧ (Kd.int .i64).C w A xs.length xs := by
  obtain ⟨A', c', he, hl, hr⟩ := XR_reads h
  injection he with h1 h2 h3
  subst h1
  exact ⟨h2, by omega, hr⟩
theorem XR_elder' (hu : XR d e W base ok u xs) (hbase : ∀ k, v.ownBlock = some k → W.heap.size ≤ k) (hb : Below W.heap.size W w1) : XR d e w1 base (fun k => ok k ∧ some k ≠ v.ownBlock) u xs :=
  XR_mono (XR_below (XR_bound hu) hb) (fun k hk => ⟨hk.1, fun he => by have := hbase k he.symm; have := hk.2.2.1; omega⟩)
theorem XR_new' (h : XR d e w1 W.heap.size ok v xs) (hlt : ∀ k, u.ownBlock = some k → k < W.heap.size) : XR d e w1 W.heap.size (fun k => ok k ∧ some k ≠ u.ownBlock) v xs :=
  XR_mono (XR_bound h) (fun k hk => ⟨hk.1, fun he => by have := hlt k he.symm; have := hk.2.1; omega⟩)
theorem XR_at {m : Nat} (hq : w.drewN m = w1) (h : XR d e w base ok v xs) : XR d e w1 base ok v xs := by subst hq; exact XR_drewN h m
theorem XR_lit {P : Program} {ops : Array Oper} {rest : List Oper} {o : Oper} {a : Act} {Q : Exit → Act → World → Prop} (d : Kd Int) {w0 W : World} (base e : Nat) (hgd : o.guard = none) {N : Tmp} (hd : o.dst = some N) {xs : List Int} {inner : List Value} {ok okp : Nat → Prop}
    (hrun : (execOp a.eval o).run P W = .ok (.value (.slice (some ⟨W.heap.size, 0, none⟩) xs.length xs.length)) (W.alloc (.cells inner.toArray e)))
    (hrep : Reps ((Kd.int .i64).M W base okp) (Kd.int .i64).sz xs inner) (hok : ∀ k, okp k → ok k) (hfresh : ok W.heap.size) (HB : Below base w0 W) (hbase : base ≤ W.heap.size) (hm : xs.length ≤ 9223372036854775807)
    (h : ∀ v1 w1, XR d e w1 base ok v1 xs → Below base w0 w1 → W.grownBy w1 none → (∃ b, v1.ownBlock = some b ∧ W.heap.size ≤ b) → wpList P ops Q rest (a.put o.dst v1) w1) : wpList P ops Q (o :: rest) a W :=
  Kd.R_lit (Kd.int .i64) base e hgd hd hrun hrep hok hfresh HB hbase hm (fun v1 w1 hr => h v1 w1 (XR_of hr))
end
end Go.Proofs.YtmdeolonjmjmgaaDoor.MX
