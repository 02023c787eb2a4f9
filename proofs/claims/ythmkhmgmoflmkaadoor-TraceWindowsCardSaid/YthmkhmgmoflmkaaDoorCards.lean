/-
  DERIVED. GIVEN WITH THE SEED: THE CARDS: each row of YthmkhmgmoflmkaaDoorRows.lean that lists a variable, with what it lists TIED to the program's text (the seventh form; the later family's looks); each row that meets fmt, with fmt's text TOLD by the authors' own Lean function (tested against real Go, not proved from fmt's source: count such statements apart). THE CARD IS WHAT COUNTS. Prove the row's statement (the work); the ties are given (YthmkhmgmoflmkaaDoorTie.lean); close each card by the builder's one call (the guide's Derived/Test/ToyasCard.lean, 'card_holds'). Laid BY PROGRAM, IN A SANDBOX (cutbox-door.mjs). By AI agents, Wed Nov 11 2026. No macro, syntax, notation, axiom, sorry.
-/
import Derived.Test.YthmkhmgmoflmkaaDoorRows
import GoSem.ClaimSeven
namespace Go.Proofs.YthmkhmgmoflmkaaDoor
namespace Rows

/-- THE TIED CARD OF 'cardnetlaw12.TraceKeys'. -/
def traceKeysCard : Claim7 := { stood := { row := traceKeysRow, standIns := [], harness := (true, "87903ad63f3be3e1414645386014d6b45f7af77deeac5fc068e41c46b300f59b"), looks := false }, kinds := [], alts := [], laidByText := true, laidKinds := [.data, .data, .data], laidTests := true, laidLooks := .later }
def TraceKeysCardSaid : Prop := Claim7.holds Tryd.pinned (.plain (OpenSpec.ofChange traceKeysSpec)) traceKeysCard

/-- THE TIED CARD OF 'cardnetlaw12.TraceOnce'. -/
def traceOnceCard : Claim7 := { stood := { row := traceOnceRow, standIns := [], harness := (true, "87903ad63f3be3e1414645386014d6b45f7af77deeac5fc068e41c46b300f59b"), looks := false }, kinds := [], alts := [], laidByText := true, laidKinds := [.data, .data, .data], laidTests := true, laidLooks := .later }
def TraceOnceCardSaid : Prop := Claim7.holds Tryd.pinned (.plain (OpenSpec.ofChange traceOnceSpec)) traceOnceCard

/-- THE TIED CARD OF 'cardnetlaw12.TraceWindows'. -/
def traceWindowsCard : Claim7 := { stood := { row := traceWindowsRow, standIns := [], harness := (true, "87903ad63f3be3e1414645386014d6b45f7af77deeac5fc068e41c46b300f59b"), looks := false }, kinds := [], alts := [], laidByText := true, laidKinds := [.data, .data, .data], laidTests := true, laidLooks := .later }
def TraceWindowsCardSaid : Prop := Claim7.holds Tryd.pinned (.plain (OpenSpec.ofChange traceWindowsSpec)) traceWindowsCard

/-- THE TIED CARD OF 'cardnetlaw12.TraceReferences'. -/
def traceReferencesCard : Claim7 := { stood := { row := traceReferencesRow, standIns := [], harness := (true, "87903ad63f3be3e1414645386014d6b45f7af77deeac5fc068e41c46b300f59b"), looks := false }, kinds := [], alts := [], laidByText := true, laidKinds := [.data, .data, .data], laidTests := true, laidLooks := .later }
def TraceReferencesCardSaid : Prop := Claim7.holds Tryd.pinned (.plain (OpenSpec.ofChange traceReferencesSpec)) traceReferencesCard

/-- THE TIED CARD OF 'cardnetlaw12.TraceNumbers'. -/
def traceNumbersCard : Claim7 := { stood := { row := traceNumbersRow, standIns := [], harness := (true, "87903ad63f3be3e1414645386014d6b45f7af77deeac5fc068e41c46b300f59b"), looks := false }, kinds := [], alts := [], laidByText := true, laidKinds := [.data, .data, .data], laidTests := true, laidLooks := .later }
def TraceNumbersCardSaid : Prop := Claim7.holds Tryd.pinned (.plain (OpenSpec.ofChange traceNumbersSpec)) traceNumbersCard

/-- THE SECOND FORM's CARD OF 'cardnetlaw12.TraceKeys'. -/
def traceKeysUptoCard : Claim7 := { stood := { row := traceKeysUptoRow, standIns := [], harness := (true, "87903ad63f3be3e1414645386014d6b45f7af77deeac5fc068e41c46b300f59b"), looks := false }, kinds := [], alts := [], laidByText := true, laidKinds := [.data, .data, .data], laidTests := true, laidLooks := .later }
def TraceKeysUptoCardSaid : Prop := Claim7.holds Tryd.pinned (.plain (OpenSpec.upto traceKeysSpec)) traceKeysUptoCard

/-- THE SECOND FORM's CARD OF 'cardnetlaw12.TraceOnce'. -/
def traceOnceUptoCard : Claim7 := { stood := { row := traceOnceUptoRow, standIns := [], harness := (true, "87903ad63f3be3e1414645386014d6b45f7af77deeac5fc068e41c46b300f59b"), looks := false }, kinds := [], alts := [], laidByText := true, laidKinds := [.data, .data, .data], laidTests := true, laidLooks := .later }
def TraceOnceUptoCardSaid : Prop := Claim7.holds Tryd.pinned (.plain (OpenSpec.upto traceOnceSpec)) traceOnceUptoCard

/-- THE SECOND FORM's CARD OF 'cardnetlaw12.TraceWindows'. -/
def traceWindowsUptoCard : Claim7 := { stood := { row := traceWindowsUptoRow, standIns := [], harness := (true, "87903ad63f3be3e1414645386014d6b45f7af77deeac5fc068e41c46b300f59b"), looks := false }, kinds := [], alts := [], laidByText := true, laidKinds := [.data, .data, .data], laidTests := true, laidLooks := .later }
def TraceWindowsUptoCardSaid : Prop := Claim7.holds Tryd.pinned (.plain (OpenSpec.upto traceWindowsSpec)) traceWindowsUptoCard

/-- THE SECOND FORM's CARD OF 'cardnetlaw12.TraceReferences'. -/
def traceReferencesUptoCard : Claim7 := { stood := { row := traceReferencesUptoRow, standIns := [], harness := (true, "87903ad63f3be3e1414645386014d6b45f7af77deeac5fc068e41c46b300f59b"), looks := false }, kinds := [], alts := [], laidByText := true, laidKinds := [.data, .data, .data], laidTests := true, laidLooks := .later }
def TraceReferencesUptoCardSaid : Prop := Claim7.holds Tryd.pinned (.plain (OpenSpec.upto traceReferencesSpec)) traceReferencesUptoCard

/-- THE SECOND FORM's CARD OF 'cardnetlaw12.TraceNumbers'. -/
def traceNumbersUptoCard : Claim7 := { stood := { row := traceNumbersUptoRow, standIns := [], harness := (true, "87903ad63f3be3e1414645386014d6b45f7af77deeac5fc068e41c46b300f59b"), looks := false }, kinds := [], alts := [], laidByText := true, laidKinds := [.data, .data, .data], laidTests := true, laidLooks := .later }
def TraceNumbersUptoCardSaid : Prop := Claim7.holds Tryd.pinned (.plain (OpenSpec.upto traceNumbersSpec)) traceNumbersUptoCard
end Rows
end Go.Proofs.YthmkhmgmoflmkaaDoor
