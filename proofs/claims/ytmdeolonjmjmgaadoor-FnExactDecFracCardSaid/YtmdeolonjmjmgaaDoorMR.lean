/- Rows of whole numbers that can be read, wherever they lie: plain facts on memory; no condition. -/
import Derived.Test.YtmdeolonjmjmgaaDoorMX
namespace Go.Proofs.YtmdeolonjmjmgaaDoor.MX
open Go.RowKit Go.Proofs.YtmdeolonjmjmgaaDoorW.PrintWords Go.Proofs.YtmdeolonjmjmgaaDoorW.PrintLast Go.Proofs.YtmdeolonjmjmgaaDoorW.PrintMore
set_option linter.unusedVariables false
/-- A row of ints that can be read. -/
def Rd (w : World) (v : Value) (l : List Int) : Prop := ∃ A c, v = .slice A l.length c ∧ l.length ≤ c ∧ Kd.C (Kd.int .i64) w A l.length l
theorem Rd_below {w w1 : World} {v : Value} {l : List Int} (h : Rd w v l) (hb : Below w.heap.size w w1) : Rd w1 v l := by
  obtain ⟨A, c, e, hl, hc⟩ := h
  exact ⟨A, c, e, hl, Kd.C_below hc hb⟩
theorem Rd_drewN {w : World} {v : Value} {l : List Int} (h : Rd w v l) (m : Nat) : Rd (w.drewN m) v l := Rd_below h (pw_below_drewN (Below.refl _ _) m)
theorem Rd_drew {w : World} {v : Value} {l : List Int} (h : Rd w v l) : Rd w.drew v l := Rd_below h (below_drew (Below.refl _ _))
theorem Rd_alloc {w : World} {v : Value} {l : List Int} (h : Rd w v l) (o : Obj) : Rd (w.alloc o) v l := Rd_below h (below_alloc (Below.refl _ _) o)
theorem Rd_set {w w0 : World} {v : Value} {l : List Int} {g j : Nat} {u : Value} (h : Rd w0 v l) (hb : Below w0.heap.size w0 w) (hg : w0.heap.size ≤ g) : Rd (w.setCell ⟨g, j, none⟩ u) v l := Rd_below h (below_set hb hg)
theorem Rd_V {e : Nat} {w : World} {base : Nat} {ok : Nat → Prop} {v : Value} {l : List Int} (h : Kd.V (Kd.int .i64) e w base ok v l) : Rd w v l := by
  obtain ⟨A, c, rfl⟩ := Kd.V_slice h
  exact ⟨A, c, rfl, (Kd.V_reads' h).2.1, (Kd.V_reads' h).2.2⟩
theorem Rd_X {d : Kd Int} {e : Nat} {w : World} {base : Nat} {ok : Nat → Prop} {v : Value} {l : List Int} (h : XR d e w base ok v l) : Rd w v l := XR_reads h
theorem Rd_cell {w : World} {v u : Value} {l : List Int} {p : Addr} (h : Rd w v l) (hp : w.cell? p = some u) (hu : ∀ m, u ≠ .int .i64 m) (x : Value) : Rd (w.setCell p x) v l := by
  obtain ⟨A, c, e, hl, hc⟩ := h
  have hr := Kd.reads_of_C (d := (0 : Int)) (h1 := fun _ => rfl) hc
  refine ⟨A, c, e, hl, Kd.C_of_reads (d := (0 : Int)) (h1 := fun _ => rfl) ⟨hr.1, hr.2.1, fun h0 => ?_⟩⟩
  obtain ⟨ad, hA, hj⟩ := hr.2.2 h0
  refine ⟨ad, hA, fun j hl2 => ?_⟩
  have hh := hj j hl2
  rw [World.cell?_setCell_other _ _ _ _ (fun e => by rw [← e, hp] at hh; exact hu _ (Option.some.inj hh))]
  exact hh
/-- A row lies beside the three cells of a fraction's box. -/
theorem Rd_box {w : World} {v : Value} {l : List Int} {g : Nat} {t : TypeId} (h : Rd w v l) (hb : w.heap[g]? = some (.cells #[.bool false, .slice none 0 0, .slice none 0 0] t (0, 0))) (x0 x1 x2 : Value) : Rd (((w.setCell ⟨g, 0, none⟩ x0).setCell ⟨g, 1, none⟩ x1).setCell ⟨g, 2, none⟩ x2) v l := by
  have h0 : w.cell? ⟨g, 0, none⟩ = some (.bool false) := (blk_cell hb 0).trans rfl
  have h1 : w.cell? ⟨g, 1, none⟩ = some (.slice none 0 0) := (blk_cell hb 1).trans rfl
  have h2 : w.cell? ⟨g, 2, none⟩ = some (.slice none 0 0) := (blk_cell hb 2).trans rfl
  refine Rd_cell (u := .slice none 0 0) (Rd_cell (u := .slice none 0 0) (Rd_cell h h0 (fun m e => by cases e) x0) ?_ (fun m e => by cases e) x1) ?_ (fun m e => by cases e) x2
  · rw [World.cell?_setCell_other _ _ _ _ (by intro e; injection e with _ e; cases e)]; exact h1
  · rw [World.cell?_setCell_other _ _ _ _ (by intro e; injection e with _ e; cases e), World.cell?_setCell_other _ _ _ _ (by intro e; injection e with _ e; cases e)]; exact h2
end Go.Proofs.YtmdeolonjmjmgaaDoor.MX
