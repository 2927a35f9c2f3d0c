/-
  DERIVED. GIVEN WITH THE SEED: THE CARDS: each row of YtmdeolonjmjmgaaDoorRows.lean that lists a variable, with what it lists TIED to the program's text (the seventh form; the later family's looks); each row that meets fmt, with fmt's text TOLD by the authors' own Lean function (tested against real Go, not proved from fmt's source: count such statements apart). THE CARD IS WHAT COUNTS. Prove the row's statement (the work); the ties are given (YtmdeolonjmjmgaaDoorTie.lean); close each card by the builder's one call (the guide's Derived/Test/ToyasCard.lean, 'card_holds'). Laid BY PROGRAM, IN A SANDBOX (cutbox-door.mjs). By AI agents, Wed Nov 11 2026. No macro, syntax, notation, axiom, sorry.
-/
import Derived.Test.YtmdeolonjmjmgaaDoorRows
import GoSem.ClaimSeven
namespace Go.Proofs.YtmdeolonjmjmgaaDoor
namespace Rows

/-- THE TIED CARD OF 'laws.FnExactLangNumOk'. -/
def fnExactLangNumOkCard : Claim7 := { stood := { row := fnExactLangNumOkRow, standIns := [], harness := (true, "d5e1f4dc3fe632967ec513883338fcbb420c7136b76a080c1db92033138f5f5b"), looks := true }, kinds := [], alts := [], laidByText := true, laidKinds := [.data, .data, .data, .sentinel, .sentinel], laidTests := true, laidLooks := .later }
def FnExactLangNumOkCardSaid : Prop := Claim7.holds Tryd.pinned (.plain (OpenSpec.ofChange fnExactLangNumOkSpec)) fnExactLangNumOkCard

/-- THE TIED CARD OF 'laws.FnExactDecOk'. -/
def fnExactDecOkCard : Claim7 := { stood := { row := fnExactDecOkRow, standIns := [], harness := (true, "d5e1f4dc3fe632967ec513883338fcbb420c7136b76a080c1db92033138f5f5b"), looks := true }, kinds := [], alts := [], laidByText := true, laidKinds := [.data, .data, .data, .sentinel, .sentinel], laidTests := true, laidLooks := .later }
def FnExactDecOkCardSaid : Prop := Claim7.holds Tryd.pinned (.plain (OpenSpec.ofChange fnExactDecOkSpec)) fnExactDecOkCard

/-- THE TIED CARD OF 'laws.FnExactDecFrac'. -/
def fnExactDecFracCard : Claim7 := { stood := { row := fnExactDecFracRow, standIns := [], harness := (true, "d5e1f4dc3fe632967ec513883338fcbb420c7136b76a080c1db92033138f5f5b"), looks := true }, kinds := [], alts := [], laidByText := true, laidKinds := [.data, .data, .data, .sentinel, .sentinel], laidTests := true, laidLooks := .later }
def FnExactDecFracCardSaid : Prop := Claim7.holds Tryd.pinned (.plain (OpenSpec.ofChange fnExactDecFracSpec)) fnExactDecFracCard

/-- THE SECOND FORM's CARD OF 'laws.FnExactLangNumOk'. -/
def fnExactLangNumOkUptoCard : Claim7 := { stood := { row := fnExactLangNumOkUptoRow, standIns := [], harness := (true, "d5e1f4dc3fe632967ec513883338fcbb420c7136b76a080c1db92033138f5f5b"), looks := true }, kinds := [], alts := [], laidByText := true, laidKinds := [.data, .data, .data, .sentinel, .sentinel], laidTests := true, laidLooks := .later }
def FnExactLangNumOkUptoCardSaid : Prop := Claim7.holds Tryd.pinned (.plain (OpenSpec.upto fnExactLangNumOkSpec)) fnExactLangNumOkUptoCard

/-- THE SECOND FORM's CARD OF 'laws.FnExactDecOk'. -/
def fnExactDecOkUptoCard : Claim7 := { stood := { row := fnExactDecOkUptoRow, standIns := [], harness := (true, "d5e1f4dc3fe632967ec513883338fcbb420c7136b76a080c1db92033138f5f5b"), looks := true }, kinds := [], alts := [], laidByText := true, laidKinds := [.data, .data, .data, .sentinel, .sentinel], laidTests := true, laidLooks := .later }
def FnExactDecOkUptoCardSaid : Prop := Claim7.holds Tryd.pinned (.plain (OpenSpec.upto fnExactDecOkSpec)) fnExactDecOkUptoCard

/-- THE SECOND FORM's CARD OF 'laws.FnExactDecFrac'. -/
def fnExactDecFracUptoCard : Claim7 := { stood := { row := fnExactDecFracUptoRow, standIns := [], harness := (true, "d5e1f4dc3fe632967ec513883338fcbb420c7136b76a080c1db92033138f5f5b"), looks := true }, kinds := [], alts := [], laidByText := true, laidKinds := [.data, .data, .data, .sentinel, .sentinel], laidTests := true, laidLooks := .later }
def FnExactDecFracUptoCardSaid : Prop := Claim7.holds Tryd.pinned (.plain (OpenSpec.upto fnExactDecFracSpec)) fnExactDecFracUptoCard
end Rows
end Go.Proofs.YtmdeolonjmjmgaaDoor
