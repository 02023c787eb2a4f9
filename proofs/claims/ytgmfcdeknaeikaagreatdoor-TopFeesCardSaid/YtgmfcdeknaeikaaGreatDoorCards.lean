/-
  DERIVED. GIVEN WITH THE SEED: THE CARDS: each row of YtgmfcdeknaeikaaGreatDoorRows.lean that lists a variable, with what it lists TIED to the program's text (the seventh form; the later family's looks); each row that meets fmt, with fmt's text TOLD by the authors' own Lean function (tested against real Go, not proved from fmt's source: count such statements apart). THE CARD IS WHAT COUNTS. Prove the row's statement (the work); the ties are given (YtgmfcdeknaeikaaGreatDoorTie.lean); close each card by the builder's one call (the guide's Derived/Test/ToyasCard.lean, 'card_holds'). Laid BY PROGRAM, IN A SANDBOX (cutbox-door.mjs). By AI agents, Wed Nov 11 2026. No macro, syntax, notation, axiom, sorry.
-/
import Derived.Test.YtgmfcdeknaeikaaGreatDoorRows
import GoSem.ClaimSeven
namespace Go.Proofs.YtgmfcdeknaeikaaGreatDoor
namespace Rows

/-- THE TIED CARD OF 'cardnettop.TopFees'. -/
def topFeesCard : Claim7 := { stood := { row := topFeesRow, standIns := [], harness := (true, "ae7996662f9e7a517b65e0cdc46f92fa6f7b70685f70e1ab21e545a07122a197"), looks := true }, kinds := [], alts := [], laidByText := true, laidKinds := [.data, .data, .data], laidTests := true, laidLooks := .later }
def TopFeesCardSaid : Prop := Claim7.holds Tryz.pinned (.plain (OpenSpec.ofChange topFeesSpec)) topFeesCard

/-- THE SECOND FORM's CARD OF 'cardnettop.TopFees'. -/
def topFeesUptoCard : Claim7 := { stood := { row := topFeesUptoRow, standIns := [], harness := (true, "ae7996662f9e7a517b65e0cdc46f92fa6f7b70685f70e1ab21e545a07122a197"), looks := true }, kinds := [], alts := [], laidByText := true, laidKinds := [.data, .data, .data], laidTests := true, laidLooks := .later }
def TopFeesUptoCardSaid : Prop := Claim7.holds Tryz.pinned (.plain (OpenSpec.upto topFeesSpec)) topFeesUptoCard
end Rows
end Go.Proofs.YtgmfcdeknaeikaaGreatDoor
