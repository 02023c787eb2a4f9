/-
  DERIVED. GIVEN WITH THE SEED: THE CARDS: each row of YtfphceknmgadgaaGreatDoorRows.lean that lists a variable, with what it lists TIED to the program's text (the seventh form; the later family's looks); each row that meets fmt, with fmt's text TOLD by the authors' own Lean function (tested against real Go, not proved from fmt's source: count such statements apart). THE CARD IS WHAT COUNTS. Prove the row's statement (the work); the ties are given (YtfphceknmgadgaaGreatDoorTie.lean); close each card by the builder's one call (the guide's Derived/Test/ToyasCard.lean, 'card_holds'). Laid BY PROGRAM, IN A SANDBOX (cutbox-door.mjs). By AI agents, Wed Nov 11 2026. No macro, syntax, notation, axiom, sorry.
-/
import Derived.Test.YtfphceknmgadgaaGreatDoorRows
import GoSem.ClaimSeven
namespace Go.Proofs.YtfphceknmgadgaaGreatDoor
namespace Rows

/-- THE TIED CARD OF 'cardnetlaw37.FeetextParses'. -/
def feetextParsesCard : Claim7 := { stood := { row := feetextParsesRow, standIns := [], harness := (true, "845f0add0c62e05a35f285b1b037cd87aaa0e649dec75d2b62b07ad43a67dc4d"), looks := true }, kinds := [], alts := [], laidByText := true, laidKinds := [.data, .data, .data], laidTests := true, laidLooks := .later }
def FeetextParsesCardSaid : Prop := Claim7.holds Tryz.pinned (.plain (OpenSpec.ofChange feetextParsesSpec)) feetextParsesCard

/-- THE TIED CARD OF 'cardnetlaw37.FeetextFormats'. -/
def feetextFormatsCard : Claim7 := { stood := { row := feetextFormatsRow, standIns := [], harness := (true, "845f0add0c62e05a35f285b1b037cd87aaa0e649dec75d2b62b07ad43a67dc4d"), looks := true }, kinds := [], alts := [], laidByText := true, laidKinds := [.data, .data, .data], laidTests := true, laidLooks := .later }
def FeetextFormatsCardSaid : Prop := Claim7.holds Tryz.pinned (.plain (OpenSpec.ofChange feetextFormatsSpec)) feetextFormatsCard

/-- THE TIED CARD OF 'cardnetlaw37.FeetextRoundTrip'. -/
def feetextRoundTripCard : Claim7 := { stood := { row := feetextRoundTripRow, standIns := [], harness := (true, "845f0add0c62e05a35f285b1b037cd87aaa0e649dec75d2b62b07ad43a67dc4d"), looks := true }, kinds := [], alts := [], laidByText := true, laidKinds := [.data, .data, .data], laidTests := true, laidLooks := .later }
def FeetextRoundTripCardSaid : Prop := Claim7.holds Tryz.pinned (.plain (OpenSpec.ofChange feetextRoundTripSpec)) feetextRoundTripCard

/-- THE SECOND FORM's CARD OF 'cardnetlaw37.FeetextParses'. -/
def feetextParsesUptoCard : Claim7 := { stood := { row := feetextParsesUptoRow, standIns := [], harness := (true, "845f0add0c62e05a35f285b1b037cd87aaa0e649dec75d2b62b07ad43a67dc4d"), looks := true }, kinds := [], alts := [], laidByText := true, laidKinds := [.data, .data, .data], laidTests := true, laidLooks := .later }
def FeetextParsesUptoCardSaid : Prop := Claim7.holds Tryz.pinned (.plain (OpenSpec.upto feetextParsesSpec)) feetextParsesUptoCard

/-- THE SECOND FORM's CARD OF 'cardnetlaw37.FeetextFormats'. -/
def feetextFormatsUptoCard : Claim7 := { stood := { row := feetextFormatsUptoRow, standIns := [], harness := (true, "845f0add0c62e05a35f285b1b037cd87aaa0e649dec75d2b62b07ad43a67dc4d"), looks := true }, kinds := [], alts := [], laidByText := true, laidKinds := [.data, .data, .data], laidTests := true, laidLooks := .later }
def FeetextFormatsUptoCardSaid : Prop := Claim7.holds Tryz.pinned (.plain (OpenSpec.upto feetextFormatsSpec)) feetextFormatsUptoCard

/-- THE SECOND FORM's CARD OF 'cardnetlaw37.FeetextRoundTrip'. -/
def feetextRoundTripUptoCard : Claim7 := { stood := { row := feetextRoundTripUptoRow, standIns := [], harness := (true, "845f0add0c62e05a35f285b1b037cd87aaa0e649dec75d2b62b07ad43a67dc4d"), looks := true }, kinds := [], alts := [], laidByText := true, laidKinds := [.data, .data, .data], laidTests := true, laidLooks := .later }
def FeetextRoundTripUptoCardSaid : Prop := Claim7.holds Tryz.pinned (.plain (OpenSpec.upto feetextRoundTripSpec)) feetextRoundTripUptoCard
end Rows
end Go.Proofs.YtfphceknmgadgaaGreatDoor
