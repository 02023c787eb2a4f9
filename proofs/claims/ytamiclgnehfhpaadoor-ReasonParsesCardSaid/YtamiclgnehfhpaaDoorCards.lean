/-
  DERIVED. GIVEN WITH THE SEED: THE CARDS: each row of YtamiclgnehfhpaaDoorRows.lean that lists a variable, with what it lists TIED to the program's text (the seventh form; the later family's looks); each row that meets fmt, with fmt's text TOLD by the authors' own Lean function (tested against real Go, not proved from fmt's source: count such statements apart). THE CARD IS WHAT COUNTS. Prove the row's statement (the work); the ties are given (YtamiclgnehfhpaaDoorTie.lean); close each card by the builder's one call (the guide's Derived/Test/ToyasCard.lean, 'card_holds'). Laid BY PROGRAM, IN A SANDBOX (cutbox-door.mjs). By AI agents, Wed Nov 11 2026. No macro, syntax, notation, axiom, sorry.
-/
import Derived.Test.YtamiclgnehfhpaaDoorRows
import GoSem.ClaimSeven
namespace Go.Proofs.YtamiclgnehfhpaaDoor
namespace Rows

/-- THE TIED CARD OF 'cardnetlaw44.ReasonChecks'. -/
def reasonChecksCard : Claim7 := { stood := { row := reasonChecksRow, standIns := [], harness := (true, "e7b544581007493402f8bcd0a4b27503143e541582e03e54ae2dfcffad9c4e18"), looks := false }, kinds := [], alts := [], laidByText := true, laidKinds := [.data, .data, .data], laidTests := true, laidLooks := .later }
def ReasonChecksCardSaid : Prop := Claim7.holds Tryd.pinned (.plain (OpenSpec.ofChange reasonChecksSpec)) reasonChecksCard

/-- THE TIED CARD OF 'cardnetlaw44.ReasonDays'. -/
def reasonDaysCard : Claim7 := { stood := { row := reasonDaysRow, standIns := [], harness := (true, "e7b544581007493402f8bcd0a4b27503143e541582e03e54ae2dfcffad9c4e18"), looks := false }, kinds := [], alts := [], laidByText := true, laidKinds := [.data, .data, .data], laidTests := true, laidLooks := .later }
def ReasonDaysCardSaid : Prop := Claim7.holds Tryd.pinned (.plain (OpenSpec.ofChange reasonDaysSpec)) reasonDaysCard

/-- THE TIED CARD OF 'cardnetlaw44.ReasonParses'. -/
def reasonParsesCard : Claim7 := { stood := { row := reasonParsesRow, standIns := [], harness := (true, "e7b544581007493402f8bcd0a4b27503143e541582e03e54ae2dfcffad9c4e18"), looks := false }, kinds := [], alts := [], laidByText := true, laidKinds := [.data, .data, .data], laidTests := true, laidLooks := .later }
def ReasonParsesCardSaid : Prop := Claim7.holds Tryd.pinned (.plain (OpenSpec.ofChange reasonParsesSpec)) reasonParsesCard

/-- THE TIED CARD OF 'cardnetlaw44.ReasonDeadlines'. -/
def reasonDeadlinesCard : Claim7 := { stood := { row := reasonDeadlinesRow, standIns := [], harness := (true, "e7b544581007493402f8bcd0a4b27503143e541582e03e54ae2dfcffad9c4e18"), looks := false }, kinds := [], alts := [], laidByText := true, laidKinds := [.data, .data, .data], laidTests := true, laidLooks := .later }
def ReasonDeadlinesCardSaid : Prop := Claim7.holds Tryd.pinned (.plain (OpenSpec.ofChange reasonDeadlinesSpec)) reasonDeadlinesCard

/-- THE TIED CARD OF 'cardnetlaw44.ReasonRoundTrip'. -/
def reasonRoundTripCard : Claim7 := { stood := { row := reasonRoundTripRow, standIns := [], harness := (true, "e7b544581007493402f8bcd0a4b27503143e541582e03e54ae2dfcffad9c4e18"), looks := false }, kinds := [], alts := [], laidByText := true, laidKinds := [.data, .data, .data], laidTests := true, laidLooks := .later }
def ReasonRoundTripCardSaid : Prop := Claim7.holds Tryd.pinned (.plain (OpenSpec.ofChange reasonRoundTripSpec)) reasonRoundTripCard

/-- THE TIED CARD OF 'cardnetlaw44.ReasonReads'. -/
def reasonReadsCard : Claim7 := { stood := { row := reasonReadsRow, standIns := [], harness := (true, "e7b544581007493402f8bcd0a4b27503143e541582e03e54ae2dfcffad9c4e18"), looks := false }, kinds := [], alts := [], laidByText := true, laidKinds := [.data, .data, .data], laidTests := true, laidLooks := .later }
def ReasonReadsCardSaid : Prop := Claim7.holds Tryd.pinned (.plain (OpenSpec.ofChange reasonReadsSpec)) reasonReadsCard

/-- THE SECOND FORM's CARD OF 'cardnetlaw44.ReasonChecks'. -/
def reasonChecksUptoCard : Claim7 := { stood := { row := reasonChecksUptoRow, standIns := [], harness := (true, "e7b544581007493402f8bcd0a4b27503143e541582e03e54ae2dfcffad9c4e18"), looks := false }, kinds := [], alts := [], laidByText := true, laidKinds := [.data, .data, .data], laidTests := true, laidLooks := .later }
def ReasonChecksUptoCardSaid : Prop := Claim7.holds Tryd.pinned (.plain (OpenSpec.upto reasonChecksSpec)) reasonChecksUptoCard

/-- THE SECOND FORM's CARD OF 'cardnetlaw44.ReasonDays'. -/
def reasonDaysUptoCard : Claim7 := { stood := { row := reasonDaysUptoRow, standIns := [], harness := (true, "e7b544581007493402f8bcd0a4b27503143e541582e03e54ae2dfcffad9c4e18"), looks := false }, kinds := [], alts := [], laidByText := true, laidKinds := [.data, .data, .data], laidTests := true, laidLooks := .later }
def ReasonDaysUptoCardSaid : Prop := Claim7.holds Tryd.pinned (.plain (OpenSpec.upto reasonDaysSpec)) reasonDaysUptoCard

/-- THE SECOND FORM's CARD OF 'cardnetlaw44.ReasonParses'. -/
def reasonParsesUptoCard : Claim7 := { stood := { row := reasonParsesUptoRow, standIns := [], harness := (true, "e7b544581007493402f8bcd0a4b27503143e541582e03e54ae2dfcffad9c4e18"), looks := false }, kinds := [], alts := [], laidByText := true, laidKinds := [.data, .data, .data], laidTests := true, laidLooks := .later }
def ReasonParsesUptoCardSaid : Prop := Claim7.holds Tryd.pinned (.plain (OpenSpec.upto reasonParsesSpec)) reasonParsesUptoCard

/-- THE SECOND FORM's CARD OF 'cardnetlaw44.ReasonDeadlines'. -/
def reasonDeadlinesUptoCard : Claim7 := { stood := { row := reasonDeadlinesUptoRow, standIns := [], harness := (true, "e7b544581007493402f8bcd0a4b27503143e541582e03e54ae2dfcffad9c4e18"), looks := false }, kinds := [], alts := [], laidByText := true, laidKinds := [.data, .data, .data], laidTests := true, laidLooks := .later }
def ReasonDeadlinesUptoCardSaid : Prop := Claim7.holds Tryd.pinned (.plain (OpenSpec.upto reasonDeadlinesSpec)) reasonDeadlinesUptoCard

/-- THE SECOND FORM's CARD OF 'cardnetlaw44.ReasonRoundTrip'. -/
def reasonRoundTripUptoCard : Claim7 := { stood := { row := reasonRoundTripUptoRow, standIns := [], harness := (true, "e7b544581007493402f8bcd0a4b27503143e541582e03e54ae2dfcffad9c4e18"), looks := false }, kinds := [], alts := [], laidByText := true, laidKinds := [.data, .data, .data], laidTests := true, laidLooks := .later }
def ReasonRoundTripUptoCardSaid : Prop := Claim7.holds Tryd.pinned (.plain (OpenSpec.upto reasonRoundTripSpec)) reasonRoundTripUptoCard

/-- THE SECOND FORM's CARD OF 'cardnetlaw44.ReasonReads'. -/
def reasonReadsUptoCard : Claim7 := { stood := { row := reasonReadsUptoRow, standIns := [], harness := (true, "e7b544581007493402f8bcd0a4b27503143e541582e03e54ae2dfcffad9c4e18"), looks := false }, kinds := [], alts := [], laidByText := true, laidKinds := [.data, .data, .data], laidTests := true, laidLooks := .later }
def ReasonReadsUptoCardSaid : Prop := Claim7.holds Tryd.pinned (.plain (OpenSpec.upto reasonReadsSpec)) reasonReadsUptoCard
end Rows
end Go.Proofs.YtamiclgnehfhpaaDoor
