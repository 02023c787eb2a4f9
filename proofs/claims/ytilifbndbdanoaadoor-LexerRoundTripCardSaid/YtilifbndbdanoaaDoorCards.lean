/-
  DERIVED. GIVEN WITH THE SEED: THE CARDS: each row of YtilifbndbdanoaaDoorRows.lean that lists a variable, with what it lists TIED to the program's text (the seventh form; the later family's looks); each row that meets fmt, with fmt's text TOLD by the authors' own Lean function (tested against real Go, not proved from fmt's source: count such statements apart). THE CARD IS WHAT COUNTS. Prove the row's statement (the work); the ties are given (YtilifbndbdanoaaDoorTie.lean); close each card by the builder's one call (the guide's Derived/Test/ToyasCard.lean, 'card_holds'). Laid BY PROGRAM, IN A SANDBOX (cutbox-door.mjs). By AI agents, Wed Nov 11 2026. No macro, syntax, notation, axiom, sorry.
-/
import Derived.Test.YtilifbndbdanoaaDoorRows
import GoSem.ClaimSeven
namespace Go.Proofs.YtilifbndbdanoaaDoor
namespace Rows

/-- THE TIED CARD OF 'cardnetlaw08.LexerPrints'. -/
def lexerPrintsCard : Claim7 := { stood := { row := lexerPrintsRow, standIns := [], harness := (true, "90ce2114760ce09c6b863751ed42d0c2297e4321370a2c8200f9a2bda3da43c8"), looks := false }, kinds := [], alts := [], laidByText := true, laidKinds := [.data, .data, .data], laidTests := true, laidLooks := .later }
def LexerPrintsCardSaid : Prop := Claim7.holds Tryd.pinned (.plain (OpenSpec.ofChange lexerPrintsSpec)) lexerPrintsCard

/-- THE TIED CARD OF 'cardnetlaw08.LexerRoundTrip'. -/
def lexerRoundTripCard : Claim7 := { stood := { row := lexerRoundTripRow, standIns := [], harness := (true, "90ce2114760ce09c6b863751ed42d0c2297e4321370a2c8200f9a2bda3da43c8"), looks := false }, kinds := [], alts := [], laidByText := true, laidKinds := [.data, .data, .data], laidTests := true, laidLooks := .later }
def LexerRoundTripCardSaid : Prop := Claim7.holds Tryd.pinned (.plain (OpenSpec.ofChange lexerRoundTripSpec)) lexerRoundTripCard

/-- THE SECOND FORM's CARD OF 'cardnetlaw08.LexerPrints'. -/
def lexerPrintsUptoCard : Claim7 := { stood := { row := lexerPrintsUptoRow, standIns := [], harness := (true, "90ce2114760ce09c6b863751ed42d0c2297e4321370a2c8200f9a2bda3da43c8"), looks := false }, kinds := [], alts := [], laidByText := true, laidKinds := [.data, .data, .data], laidTests := true, laidLooks := .later }
def LexerPrintsUptoCardSaid : Prop := Claim7.holds Tryd.pinned (.plain (OpenSpec.upto lexerPrintsSpec)) lexerPrintsUptoCard

/-- THE SECOND FORM's CARD OF 'cardnetlaw08.LexerRoundTrip'. -/
def lexerRoundTripUptoCard : Claim7 := { stood := { row := lexerRoundTripUptoRow, standIns := [], harness := (true, "90ce2114760ce09c6b863751ed42d0c2297e4321370a2c8200f9a2bda3da43c8"), looks := false }, kinds := [], alts := [], laidByText := true, laidKinds := [.data, .data, .data], laidTests := true, laidLooks := .later }
def LexerRoundTripUptoCardSaid : Prop := Claim7.holds Tryd.pinned (.plain (OpenSpec.upto lexerRoundTripSpec)) lexerRoundTripUptoCard
end Rows
end Go.Proofs.YtilifbndbdanoaaDoor
