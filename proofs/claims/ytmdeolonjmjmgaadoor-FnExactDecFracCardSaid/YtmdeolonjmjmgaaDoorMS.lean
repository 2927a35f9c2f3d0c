import Derived.Laws.Entries
namespace Go.Proofs.YtmdeolonjmjmgaaDoor.MS
open Go

theorem isSome_setCell (w : World) (b a : Addr) (v : Value) : ((w.setCell b v).cell? a).isSome = (w.cell? a).isSome := by
  by_cases h : b = a
  · subst h
    cases hc : w.cell? b with
    | some u => rw [World.cell?_setCell_same w b v hc]; rfl
    | none =>
      unfold World.cell? at hc
      simp only [World.setCell, World.cell?, Array.getElem?_modify, ↓reduceIte]
      cases hh : w.heap[b.block]? with
      | none => simp
      | some x =>
        rw [hh] at hc
        cases x <;> simp_all
  · rw [World.cell?_setCell_other w b a v h]

end Go.Proofs.YtmdeolonjmjmgaaDoor.MS
