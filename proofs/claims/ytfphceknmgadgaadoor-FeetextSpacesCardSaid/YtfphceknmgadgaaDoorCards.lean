/-
  DERIVED. GIVEN WITH THE SEED: THE CARDS: each row of YtfphceknmgadgaaDoorRows.lean that lists a variable, with what it lists TIED to the program's text (the seventh form; the later family's looks); each row that meets fmt, with fmt's text TOLD by the authors' own Lean function (tested against real Go, not proved from fmt's source: count such statements apart). THE CARD IS WHAT COUNTS. Prove the row's statement (the work); the ties are given (YtfphceknmgadgaaDoorTie.lean); close each card by the builder's one call (the guide's Derived/Test/ToyasCard.lean, 'card_holds'). Laid BY PROGRAM, IN A SANDBOX (cutbox-door.mjs). By AI agents, Wed Nov 11 2026. No macro, syntax, notation, axiom, sorry.
-/
import Derived.Test.YtfphceknmgadgaaDoorRows
import GoSem.ClaimSeven
namespace Go.Proofs.YtfphceknmgadgaaDoor
namespace Rows

/-- THE TIED CARD OF 'cardnetlaw37.FeetextSpaces'. -/
def feetextSpacesCard : Claim7 := { stood := { row := feetextSpacesRow, standIns := [], harness := (true, "b7eb8f5a8ccb5806dc1f470a042a8b38ca1556e5c252bb8c3ce104481856085e"), looks := true }, kinds := [], alts := [], laidByText := true, laidKinds := [.data, .data, .data], laidTests := true, laidLooks := .later }
def FeetextSpacesCardSaid : Prop := Claim7.holds Tryd.pinned (.plain (OpenSpec.ofChange feetextSpacesSpec)) feetextSpacesCard

/-- THE SECOND FORM's CARD OF 'cardnetlaw37.FeetextSpaces'. -/
def feetextSpacesUptoCard : Claim7 := { stood := { row := feetextSpacesUptoRow, standIns := [], harness := (true, "b7eb8f5a8ccb5806dc1f470a042a8b38ca1556e5c252bb8c3ce104481856085e"), looks := true }, kinds := [], alts := [], laidByText := true, laidKinds := [.data, .data, .data], laidTests := true, laidLooks := .later }
def FeetextSpacesUptoCardSaid : Prop := Claim7.holds Tryd.pinned (.plain (OpenSpec.upto feetextSpacesSpec)) feetextSpacesUptoCard
end Rows
end Go.Proofs.YtfphceknmgadgaaDoor
