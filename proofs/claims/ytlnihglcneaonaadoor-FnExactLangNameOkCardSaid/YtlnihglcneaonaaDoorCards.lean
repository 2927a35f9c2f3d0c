/-
  DERIVED. GIVEN WITH THE SEED: THE CARDS: each row of YtlnihglcneaonaaDoorRows.lean that lists a variable, with what it lists TIED to the program's text (the seventh form; the later family's looks); each row that meets fmt, with fmt's text TOLD by the authors' own Lean function (tested against real Go, not proved from fmt's source: count such statements apart). THE CARD IS WHAT COUNTS. Prove the row's statement (the work); the ties are given (YtlnihglcneaonaaDoorTie.lean); close each card by the builder's one call (the guide's Derived/Test/ToyasCard.lean, 'card_holds'). Laid BY PROGRAM, IN A SANDBOX (cutbox-door.mjs). By AI agents, Wed Nov 11 2026. No macro, syntax, notation, axiom, sorry.
-/
import Derived.Test.YtlnihglcneaonaaDoorRows
import GoSem.ClaimSeven
namespace Go.Proofs.YtlnihglcneaonaaDoor
namespace Rows

/-- THE TIED CARD OF 'laws.FnExactLangNameOk'. -/
def fnExactLangNameOkCard : Claim7 := { stood := { row := fnExactLangNameOkRow, standIns := [], harness := (true, "9ece0082013d4e50ca09c994ce979a4b4881b50bf3658c5d55c439cc63096886"), looks := false }, kinds := [], alts := [], laidByText := true, laidKinds := [.widerDeep], laidTests := true, laidLooks := .later }
def FnExactLangNameOkCardSaid : Prop := Claim7.holds Tryd.pinned (.plain (OpenSpec.ofChange fnExactLangNameOkSpec)) fnExactLangNameOkCard

/-- THE SECOND FORM's CARD OF 'laws.FnExactLangNameOk'. -/
def fnExactLangNameOkUptoCard : Claim7 := { stood := { row := fnExactLangNameOkUptoRow, standIns := [], harness := (true, "9ece0082013d4e50ca09c994ce979a4b4881b50bf3658c5d55c439cc63096886"), looks := false }, kinds := [], alts := [], laidByText := true, laidKinds := [.widerDeep], laidTests := true, laidLooks := .later }
def FnExactLangNameOkUptoCardSaid : Prop := Claim7.holds Tryd.pinned (.plain (OpenSpec.upto fnExactLangNameOkSpec)) fnExactLangNameOkUptoCard
end Rows
end Go.Proofs.YtlnihglcneaonaaDoor
