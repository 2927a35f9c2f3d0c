/-
  DERIVED. GIVEN WITH THE SEED: THE CARDS: each row of YtkpholdkijlogaaDoorRows.lean that lists a variable, with what it lists TIED to the program's text (the seventh form; the later family's looks); each row that meets fmt, with fmt's text TOLD by the authors' own Lean function (tested against real Go, not proved from fmt's source: count such statements apart). THE CARD IS WHAT COUNTS. Prove the row's statement (the work); the ties are given (YtkpholdkijlogaaDoorTie.lean); close each card by the builder's one call (the guide's Derived/Test/ToyasCard.lean, 'card_holds'). Laid BY PROGRAM, IN A SANDBOX (cutbox-door.mjs). By AI agents, Wed Nov 11 2026. No macro, syntax, notation, axiom, sorry.
-/
import Derived.Test.YtkpholdkijlogaaDoorRows
import GoSem.ClaimSeven
namespace Go.Proofs.YtkpholdkijlogaaDoor
namespace Rows

/-- THE TIED CARD OF 'laws.FnExactBitMake'. -/
def fnExactBitMakeCard : Claim7 := { stood := { row := fnExactBitMakeRow, standIns := [], harness := (true, "b16d3e3981f934cbed0c2c54598d8f73fba32bc62bb5312f6a47f3425cce22ba"), looks := false }, kinds := [], alts := [], laidByText := true, laidKinds := [.data], laidTests := true, laidLooks := .later }
def FnExactBitMakeCardSaid : Prop := Claim7.holds Tryd.pinned (.plain (OpenSpec.ofChange fnExactBitMakeSpec)) fnExactBitMakeCard

/-- THE TIED CARD OF 'laws.FnExactBitWiden'. -/
def fnExactBitWidenCard : Claim7 := { stood := { row := fnExactBitWidenRow, standIns := [], harness := (true, "b16d3e3981f934cbed0c2c54598d8f73fba32bc62bb5312f6a47f3425cce22ba"), looks := false }, kinds := [], alts := [], laidByText := true, laidKinds := [.data], laidTests := true, laidLooks := .later }
def FnExactBitWidenCardSaid : Prop := Claim7.holds Tryd.pinned (.plain (OpenSpec.ofChange fnExactBitWidenSpec)) fnExactBitWidenCard

/-- THE TIED CARD OF 'laws.FnExactBitBelow'. -/
def fnExactBitBelowCard : Claim7 := { stood := { row := fnExactBitBelowRow, standIns := [], harness := (true, "b16d3e3981f934cbed0c2c54598d8f73fba32bc62bb5312f6a47f3425cce22ba"), looks := false }, kinds := [], alts := [], laidByText := true, laidKinds := [.data], laidTests := true, laidLooks := .later }
def FnExactBitBelowCardSaid : Prop := Claim7.holds Tryd.pinned (.plain (OpenSpec.ofChange fnExactBitBelowSpec)) fnExactBitBelowCard

/-- THE TIED CARD OF 'laws.FnExactBitAbove'. -/
def fnExactBitAboveCard : Claim7 := { stood := { row := fnExactBitAboveRow, standIns := [], harness := (true, "b16d3e3981f934cbed0c2c54598d8f73fba32bc62bb5312f6a47f3425cce22ba"), looks := false }, kinds := [], alts := [], laidByText := true, laidKinds := [.data], laidTests := true, laidLooks := .later }
def FnExactBitAboveCardSaid : Prop := Claim7.holds Tryd.pinned (.plain (OpenSpec.ofChange fnExactBitAboveSpec)) fnExactBitAboveCard

/-- THE TIED CARD OF 'laws.FnExactPairMore'. -/
def fnExactPairMoreCard : Claim7 := { stood := { row := fnExactPairMoreRow, standIns := [], harness := (true, "b16d3e3981f934cbed0c2c54598d8f73fba32bc62bb5312f6a47f3425cce22ba"), looks := false }, kinds := [], alts := [], laidByText := true, laidKinds := [.data], laidTests := true, laidLooks := .later }
def FnExactPairMoreCardSaid : Prop := Claim7.holds Tryd.pinned (.plain (OpenSpec.ofChange fnExactPairMoreSpec)) fnExactPairMoreCard

/-- THE SECOND FORM's CARD OF 'laws.FnExactBitMake'. -/
def fnExactBitMakeUptoCard : Claim7 := { stood := { row := fnExactBitMakeUptoRow, standIns := [], harness := (true, "b16d3e3981f934cbed0c2c54598d8f73fba32bc62bb5312f6a47f3425cce22ba"), looks := false }, kinds := [], alts := [], laidByText := true, laidKinds := [.data], laidTests := true, laidLooks := .later }
def FnExactBitMakeUptoCardSaid : Prop := Claim7.holds Tryd.pinned (.plain (OpenSpec.upto fnExactBitMakeSpec)) fnExactBitMakeUptoCard

/-- THE SECOND FORM's CARD OF 'laws.FnExactBitWiden'. -/
def fnExactBitWidenUptoCard : Claim7 := { stood := { row := fnExactBitWidenUptoRow, standIns := [], harness := (true, "b16d3e3981f934cbed0c2c54598d8f73fba32bc62bb5312f6a47f3425cce22ba"), looks := false }, kinds := [], alts := [], laidByText := true, laidKinds := [.data], laidTests := true, laidLooks := .later }
def FnExactBitWidenUptoCardSaid : Prop := Claim7.holds Tryd.pinned (.plain (OpenSpec.upto fnExactBitWidenSpec)) fnExactBitWidenUptoCard

/-- THE SECOND FORM's CARD OF 'laws.FnExactBitBelow'. -/
def fnExactBitBelowUptoCard : Claim7 := { stood := { row := fnExactBitBelowUptoRow, standIns := [], harness := (true, "b16d3e3981f934cbed0c2c54598d8f73fba32bc62bb5312f6a47f3425cce22ba"), looks := false }, kinds := [], alts := [], laidByText := true, laidKinds := [.data], laidTests := true, laidLooks := .later }
def FnExactBitBelowUptoCardSaid : Prop := Claim7.holds Tryd.pinned (.plain (OpenSpec.upto fnExactBitBelowSpec)) fnExactBitBelowUptoCard

/-- THE SECOND FORM's CARD OF 'laws.FnExactBitAbove'. -/
def fnExactBitAboveUptoCard : Claim7 := { stood := { row := fnExactBitAboveUptoRow, standIns := [], harness := (true, "b16d3e3981f934cbed0c2c54598d8f73fba32bc62bb5312f6a47f3425cce22ba"), looks := false }, kinds := [], alts := [], laidByText := true, laidKinds := [.data], laidTests := true, laidLooks := .later }
def FnExactBitAboveUptoCardSaid : Prop := Claim7.holds Tryd.pinned (.plain (OpenSpec.upto fnExactBitAboveSpec)) fnExactBitAboveUptoCard

/-- THE SECOND FORM's CARD OF 'laws.FnExactPairMore'. -/
def fnExactPairMoreUptoCard : Claim7 := { stood := { row := fnExactPairMoreUptoRow, standIns := [], harness := (true, "b16d3e3981f934cbed0c2c54598d8f73fba32bc62bb5312f6a47f3425cce22ba"), looks := false }, kinds := [], alts := [], laidByText := true, laidKinds := [.data], laidTests := true, laidLooks := .later }
def FnExactPairMoreUptoCardSaid : Prop := Claim7.holds Tryd.pinned (.plain (OpenSpec.upto fnExactPairMoreSpec)) fnExactPairMoreUptoCard
end Rows
end Go.Proofs.YtkpholdkijlogaaDoor
