/-
  DERIVED. GIVEN WITH THE SEED: THE CARDS: each row of YtgglccpckhpocaaDoorRows.lean that lists a variable, with what it lists TIED to the program's text (the seventh form; the later family's looks); each row that meets fmt, with fmt's text TOLD by the authors' own Lean function (tested against real Go, not proved from fmt's source: count such statements apart). THE CARD IS WHAT COUNTS. Prove the row's statement (the work); the ties are given (YtgglccpckhpocaaDoorTie.lean); close each card by the builder's one call (the guide's Derived/Test/ToyasCard.lean, 'card_holds'). Laid BY PROGRAM, IN A SANDBOX (cutbox-door.mjs). By AI agents, Wed Nov 11 2026. No macro, syntax, notation, axiom, sorry.
-/
import Derived.Test.YtgglccpckhpocaaDoorRows
import GoSem.ClaimSeven
namespace Go.Proofs.YtgglccpckhpocaaDoor
namespace Rows

/-- THE TIED CARD OF 'cardnetlaw25.RuletextExpressions'. -/
def ruletextExpressionsCard : Claim7 := { stood := { row := ruletextExpressionsRow, standIns := [], harness := (true, "d6bfef0146fecb8b6983411dc7d5a6a0ea4c57e5f8e65c733cabf8f199ec369e"), looks := true }, kinds := [], alts := [], laidByText := true, laidKinds := [.data, .data, .data], laidTests := true, laidLooks := .later }
def RuletextExpressionsCardSaid : Prop := Claim7.holds Tryd.pinned (.plain (OpenSpec.ofChange ruletextExpressionsSpec)) ruletextExpressionsCard

/-- THE TIED CARD OF 'cardnetlaw25.RuletextSpaces'. -/
def ruletextSpacesCard : Claim7 := { stood := { row := ruletextSpacesRow, standIns := [], harness := (true, "d6bfef0146fecb8b6983411dc7d5a6a0ea4c57e5f8e65c733cabf8f199ec369e"), looks := true }, kinds := [], alts := [], laidByText := true, laidKinds := [.data, .data, .data], laidTests := true, laidLooks := .later }
def RuletextSpacesCardSaid : Prop := Claim7.holds Tryd.pinned (.plain (OpenSpec.ofChange ruletextSpacesSpec)) ruletextSpacesCard

/-- THE SECOND FORM's CARD OF 'cardnetlaw25.RuletextExpressions'. -/
def ruletextExpressionsUptoCard : Claim7 := { stood := { row := ruletextExpressionsUptoRow, standIns := [], harness := (true, "d6bfef0146fecb8b6983411dc7d5a6a0ea4c57e5f8e65c733cabf8f199ec369e"), looks := true }, kinds := [], alts := [], laidByText := true, laidKinds := [.data, .data, .data], laidTests := true, laidLooks := .later }
def RuletextExpressionsUptoCardSaid : Prop := Claim7.holds Tryd.pinned (.plain (OpenSpec.upto ruletextExpressionsSpec)) ruletextExpressionsUptoCard

/-- THE SECOND FORM's CARD OF 'cardnetlaw25.RuletextSpaces'. -/
def ruletextSpacesUptoCard : Claim7 := { stood := { row := ruletextSpacesUptoRow, standIns := [], harness := (true, "d6bfef0146fecb8b6983411dc7d5a6a0ea4c57e5f8e65c733cabf8f199ec369e"), looks := true }, kinds := [], alts := [], laidByText := true, laidKinds := [.data, .data, .data], laidTests := true, laidLooks := .later }
def RuletextSpacesUptoCardSaid : Prop := Claim7.holds Tryd.pinned (.plain (OpenSpec.upto ruletextSpacesSpec)) ruletextSpacesUptoCard
end Rows
end Go.Proofs.YtgglccpckhpocaaDoor
