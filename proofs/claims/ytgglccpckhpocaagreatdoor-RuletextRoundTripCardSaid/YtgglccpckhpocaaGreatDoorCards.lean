/-
  DERIVED. GIVEN WITH THE SEED: THE CARDS: each row of YtgglccpckhpocaaGreatDoorRows.lean that lists a variable, with what it lists TIED to the program's text (the seventh form; the later family's looks); each row that meets fmt, with fmt's text TOLD by the authors' own Lean function (tested against real Go, not proved from fmt's source: count such statements apart). THE CARD IS WHAT COUNTS. Prove the row's statement (the work); the ties are given (YtgglccpckhpocaaGreatDoorTie.lean); close each card by the builder's one call (the guide's Derived/Test/ToyasCard.lean, 'card_holds'). Laid BY PROGRAM, IN A SANDBOX (cutbox-door.mjs). By AI agents, Wed Nov 11 2026. No macro, syntax, notation, axiom, sorry.
-/
import Derived.Test.YtgglccpckhpocaaGreatDoorRows
import GoSem.ClaimSeven
namespace Go.Proofs.YtgglccpckhpocaaGreatDoor
namespace Rows

/-- THE TIED CARD OF 'cardnetlaw25.RuletextParses'. -/
def ruletextParsesCard : Claim7 := { stood := { row := ruletextParsesRow, standIns := [], harness := (true, "2653f5dc3a5f4f5b2efedecf0f23dff71cc5acfa2666cfe9a2dbc5566d8eff20"), looks := true }, kinds := [], alts := [], laidByText := true, laidKinds := [.data, .data, .data], laidTests := true, laidLooks := .later }
def RuletextParsesCardSaid : Prop := Claim7.holds Tryz.pinned (.plain (OpenSpec.ofChange ruletextParsesSpec)) ruletextParsesCard

/-- THE TIED CARD OF 'cardnetlaw25.RuletextReads'. -/
def ruletextReadsCard : Claim7 := { stood := { row := ruletextReadsRow, standIns := [], harness := (true, "2653f5dc3a5f4f5b2efedecf0f23dff71cc5acfa2666cfe9a2dbc5566d8eff20"), looks := true }, kinds := [], alts := [], laidByText := true, laidKinds := [.data, .data, .data], laidTests := true, laidLooks := .later }
def RuletextReadsCardSaid : Prop := Claim7.holds Tryz.pinned (.plain (OpenSpec.ofChange ruletextReadsSpec)) ruletextReadsCard

/-- THE TIED CARD OF 'cardnetlaw25.RuletextFormats'. -/
def ruletextFormatsCard : Claim7 := { stood := { row := ruletextFormatsRow, standIns := [], harness := (true, "2653f5dc3a5f4f5b2efedecf0f23dff71cc5acfa2666cfe9a2dbc5566d8eff20"), looks := true }, kinds := [], alts := [], laidByText := true, laidKinds := [.data, .data, .data], laidTests := true, laidLooks := .later }
def RuletextFormatsCardSaid : Prop := Claim7.holds Tryz.pinned (.plain (OpenSpec.ofChange ruletextFormatsSpec)) ruletextFormatsCard

/-- THE TIED CARD OF 'cardnetlaw25.RuletextRoundTrip'. -/
def ruletextRoundTripCard : Claim7 := { stood := { row := ruletextRoundTripRow, standIns := [], harness := (true, "2653f5dc3a5f4f5b2efedecf0f23dff71cc5acfa2666cfe9a2dbc5566d8eff20"), looks := true }, kinds := [], alts := [], laidByText := true, laidKinds := [.data, .data, .data], laidTests := true, laidLooks := .later }
def RuletextRoundTripCardSaid : Prop := Claim7.holds Tryz.pinned (.plain (OpenSpec.ofChange ruletextRoundTripSpec)) ruletextRoundTripCard

/-- THE TIED CARD OF 'cardnetlaw25.RuletextCanonical'. -/
def ruletextCanonicalCard : Claim7 := { stood := { row := ruletextCanonicalRow, standIns := [], harness := (true, "2653f5dc3a5f4f5b2efedecf0f23dff71cc5acfa2666cfe9a2dbc5566d8eff20"), looks := true }, kinds := [], alts := [], laidByText := true, laidKinds := [.data, .data, .data], laidTests := true, laidLooks := .later }
def RuletextCanonicalCardSaid : Prop := Claim7.holds Tryz.pinned (.plain (OpenSpec.ofChange ruletextCanonicalSpec)) ruletextCanonicalCard

/-- THE SECOND FORM's CARD OF 'cardnetlaw25.RuletextParses'. -/
def ruletextParsesUptoCard : Claim7 := { stood := { row := ruletextParsesUptoRow, standIns := [], harness := (true, "2653f5dc3a5f4f5b2efedecf0f23dff71cc5acfa2666cfe9a2dbc5566d8eff20"), looks := true }, kinds := [], alts := [], laidByText := true, laidKinds := [.data, .data, .data], laidTests := true, laidLooks := .later }
def RuletextParsesUptoCardSaid : Prop := Claim7.holds Tryz.pinned (.plain (OpenSpec.upto ruletextParsesSpec)) ruletextParsesUptoCard

/-- THE SECOND FORM's CARD OF 'cardnetlaw25.RuletextReads'. -/
def ruletextReadsUptoCard : Claim7 := { stood := { row := ruletextReadsUptoRow, standIns := [], harness := (true, "2653f5dc3a5f4f5b2efedecf0f23dff71cc5acfa2666cfe9a2dbc5566d8eff20"), looks := true }, kinds := [], alts := [], laidByText := true, laidKinds := [.data, .data, .data], laidTests := true, laidLooks := .later }
def RuletextReadsUptoCardSaid : Prop := Claim7.holds Tryz.pinned (.plain (OpenSpec.upto ruletextReadsSpec)) ruletextReadsUptoCard

/-- THE SECOND FORM's CARD OF 'cardnetlaw25.RuletextFormats'. -/
def ruletextFormatsUptoCard : Claim7 := { stood := { row := ruletextFormatsUptoRow, standIns := [], harness := (true, "2653f5dc3a5f4f5b2efedecf0f23dff71cc5acfa2666cfe9a2dbc5566d8eff20"), looks := true }, kinds := [], alts := [], laidByText := true, laidKinds := [.data, .data, .data], laidTests := true, laidLooks := .later }
def RuletextFormatsUptoCardSaid : Prop := Claim7.holds Tryz.pinned (.plain (OpenSpec.upto ruletextFormatsSpec)) ruletextFormatsUptoCard

/-- THE SECOND FORM's CARD OF 'cardnetlaw25.RuletextRoundTrip'. -/
def ruletextRoundTripUptoCard : Claim7 := { stood := { row := ruletextRoundTripUptoRow, standIns := [], harness := (true, "2653f5dc3a5f4f5b2efedecf0f23dff71cc5acfa2666cfe9a2dbc5566d8eff20"), looks := true }, kinds := [], alts := [], laidByText := true, laidKinds := [.data, .data, .data], laidTests := true, laidLooks := .later }
def RuletextRoundTripUptoCardSaid : Prop := Claim7.holds Tryz.pinned (.plain (OpenSpec.upto ruletextRoundTripSpec)) ruletextRoundTripUptoCard

/-- THE SECOND FORM's CARD OF 'cardnetlaw25.RuletextCanonical'. -/
def ruletextCanonicalUptoCard : Claim7 := { stood := { row := ruletextCanonicalUptoRow, standIns := [], harness := (true, "2653f5dc3a5f4f5b2efedecf0f23dff71cc5acfa2666cfe9a2dbc5566d8eff20"), looks := true }, kinds := [], alts := [], laidByText := true, laidKinds := [.data, .data, .data], laidTests := true, laidLooks := .later }
def RuletextCanonicalUptoCardSaid : Prop := Claim7.holds Tryz.pinned (.plain (OpenSpec.upto ruletextCanonicalSpec)) ruletextCanonicalUptoCard
end Rows
end Go.Proofs.YtgglccpckhpocaaGreatDoor
