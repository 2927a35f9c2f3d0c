/- The language's own words, as they stand in memory when a call begins; that the program's own start lays them. No condition. -/
import Derived.Test.YtlnihglcneaonaaDoorRows
import Derived.ProofKit
import Derived.LaidMore
import Derived.OpenShut
import Derived.Stop.Joined
import Derived.SliceStrings
import Derived.FnData
import Derived.Below
import Derived.Deep.Draws
namespace Go.Proofs.YtlnihglcneaonaaDoor.SOwn
open Go Go.Proofs Go.ChangeShapes Go.WideShapes Go.ChangeAt Go.RowKit
def words : List ByteArray := [⟨#[100, 101, 102]⟩, ⟨#[118, 97, 114]⟩, ⟨#[115, 113, 114, 116]⟩, ⟨#[97, 98, 115]⟩, ⟨#[109, 105, 110]⟩, ⟨#[109, 97, 120]⟩]
/-- The words stand in memory. -/
def Tab (w : World) : Prop := ∃ (ad : Addr) (c : Nat), w.cell? ⟨0, 0, none⟩ = some (.slice (some ad) words.length c) ∧ 6 ≤ c ∧ ∀ j, j < 6 → w.cell? (ad.add j) = some (.string (words.getD j ByteArray.empty))
def laidL : List (String × DataW Unit) := [("loop.example/pinfold/impl.ownWords", Rows.laid_loop_example_pinfold_impl_ownWords)]
theorem gOwn : Tryd.prog.globalNamed "loop.example/pinfold/impl.ownWords" = some 0 := by kernel_rfl
theorem tOwn : (Tryd.prog.globals[0]?).map (·.type) = some 24 := by kernel_rfl
theorem cStr : Tryd.prog.cellsOf 9 = 1 := by kernel_rfl
theorem cSl : Tryd.prog.cellsOf 24 = 1 := by kernel_rfl
theorem door_met (os : Os) (args : Array Value) : laidMetH Tryd.prog laidL ((World.doorLaid Tryd.prog 14 os).forCall (fun _ _ => 0) ⟨#[], args, []⟩).memory :=
  laidMetH_of_parts3 (fuel := 8) (laidMet_of_run' 8 (by kernel_rfl) (by kernel_rfl)) (by kernel_rfl) (by kernel_rfl)
theorem strs_inj : ∀ {a b : List ByteArray}, (strs a : List (DataW Unit)) = strs b → a = b := by
  intro a
  induction a with
  | nil => intro b h; cases b with
    | nil => rfl
    | cons y ys => simp [strs] at h
  | cons x xs ih => intro b h; cases b with
    | nil => simp [strs] at h
    | cons y ys =>
      simp only [strs, List.map_cons, List.cons.injEq, DataW.lit.injEq, Lit.string.injEq] at h
      have e : x = y := by
        cases x; cases y
        exact congrArg ByteArray.mk (Array.toList_inj.mp h.1)
      rw [e, ih h.2]
theorem tab_of {W : World} (h : laidMetH Tryd.prog laidL W) : Tab W := by
  rw [MakeChecks.laidMetH_plain _ _ _ (by kernel_rfl)] at h
  obtain ⟨ps, ⟨g0, t0, cs0, f0, p0, q0, hg0, ht0, hv0, hd0, _, _⟩, _, _⟩ := h
  obtain rfl := Option.some.inj (gOwn.symm.trans hg0)
  obtain rfl := Option.some.inj (tOwn.symm.trans ht0)
  rcases open_strings Tryd.underlying24 Tryd.underlying9 cStr hd0 with ⟨_, hx⟩ | ⟨ad, len, cap, ss, hcs, _, hle, _, hlen, hx, hcell, _⟩
  · simp [Rows.laid_loop_example_pinfold_impl_ownWords] at hx
  · simp only [Prod.mk.injEq] at hx
    have hx1 : (DataW.slice (strs words) [] : DataW Unit) = .slice (strs (ss.take len)) (strs (ss.drop len)) := hx.1
    injection hx1 with h1 h2
    have e1 : words = ss.take len := strs_inj h1
    have e2 : ss.drop len = [] := (strs_inj (b := []) h2.symm)
    have e3 : ss = words := by rw [← List.take_append_drop len ss, e2, List.append_nil, ← e1]
    have l6 : ss.length = 6 := by rw [e3]; rfl
    have hl : len = 6 := by
      have := congrArg List.length e1
      rw [List.length_take, l6] at this
      have h2' := congrArg List.length e2
      rw [List.length_drop, l6] at h2'
      have w6 : words.length = 6 := rfl
      have hc6 : len ≤ 6 := by
        rw [← l6, hlen]; split <;> omega
      omega
    subst hl
    refine ⟨ad, cap, ?_, hle, fun j hj => ?_⟩
    · have := World.var?_cell hg0 hv0 0
      rw [Array.eq_one_of_toList hcs] at this
      rw [show words.length = 6 from rfl]
      simpa using this
    · rw [← e3]; exact hcell j (by omega)
theorem Tab.below {w W : World} (h : Tab w) (hb : Below w.heap.size w W) : Tab W := by
  obtain ⟨ad, c, h1, h2, h3⟩ := h
  exact ⟨ad, c, (hb.cell (p := ⟨0, 0, none⟩) (World.block_lt_of_cell? w _ h1)).trans h1, h2, fun j hj => (hb.cell (p := ad.add j) (World.block_lt_of_cell? w _ (h3 j hj))).trans (h3 j hj)⟩
end Go.Proofs.YtlnihglcneaonaaDoor.SOwn
