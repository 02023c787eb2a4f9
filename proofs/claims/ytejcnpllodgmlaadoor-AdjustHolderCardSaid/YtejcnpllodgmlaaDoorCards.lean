/-
  DERIVED. GIVEN WITH THE SEED: THE CARDS: each row of YtejcnpllodgmlaaDoorRows.lean that lists a variable, with what it lists TIED to the program's text (the seventh form; the later family's looks); each row that meets fmt, with fmt's text TOLD by the authors' own Lean function (tested against real Go, not proved from fmt's source: count such statements apart). THE CARD IS WHAT COUNTS. Prove the row's statement (the work); the ties are given (YtejcnpllodgmlaaDoorTie.lean); close each card by the builder's one call (the guide's Derived/Test/ToyasCard.lean, 'card_holds'). Laid BY PROGRAM, IN A SANDBOX (cutbox-door.mjs). By AI agents, Wed Nov 11 2026. No macro, syntax, notation, axiom, sorry.
-/
import Derived.Test.YtejcnpllodgmlaaDoorRows
import GoSem.ClaimSeven
namespace Go.Proofs.YtejcnpllodgmlaaDoor
namespace Rows

/-- THE TIED CARD OF 'cardnetlaw47.AdjustHolder'. -/
def adjustHolderCard : Claim7 := { stood := { row := adjustHolderRow, standIns := [], harness := (true, "5db355432f74913d09779a53559e8700bddf039f94246ff257da8d2a1d8b04ab"), looks := false }, kinds := [], alts := [], laidByText := true, laidKinds := [.data, .data, .data], laidTests := true, laidLooks := .later }
def AdjustHolderCardSaid : Prop := Claim7.holds Tryd.pinned (.plain (OpenSpec.ofChange adjustHolderSpec)) adjustHolderCard

/-- THE TIED CARD OF 'cardnetlaw47.AdjustMoves'. -/
def adjustMovesCard : Claim7 := { stood := { row := adjustMovesRow, standIns := [], harness := (true, "5db355432f74913d09779a53559e8700bddf039f94246ff257da8d2a1d8b04ab"), looks := false }, kinds := [], alts := [], laidByText := true, laidKinds := [.data, .data, .data], laidTests := true, laidLooks := .later }
def AdjustMovesCardSaid : Prop := Claim7.holds Tryd.pinned (.plain (OpenSpec.ofChange adjustMovesSpec)) adjustMovesCard

/-- THE TIED CARD OF 'cardnetlaw47.AdjustLists'. -/
def adjustListsCard : Claim7 := { stood := { row := adjustListsRow, standIns := [], harness := (true, "5db355432f74913d09779a53559e8700bddf039f94246ff257da8d2a1d8b04ab"), looks := false }, kinds := [], alts := [], laidByText := true, laidKinds := [.data, .data, .data], laidTests := true, laidLooks := .later }
def AdjustListsCardSaid : Prop := Claim7.holds Tryd.pinned (.plain (OpenSpec.ofChange adjustListsSpec)) adjustListsCard

/-- THE TIED CARD OF 'cardnetlaw47.AdjustSums'. -/
def adjustSumsCard : Claim7 := { stood := { row := adjustSumsRow, standIns := [], harness := (true, "5db355432f74913d09779a53559e8700bddf039f94246ff257da8d2a1d8b04ab"), looks := false }, kinds := [], alts := [], laidByText := true, laidKinds := [.data, .data, .data], laidTests := true, laidLooks := .later }
def AdjustSumsCardSaid : Prop := Claim7.holds Tryd.pinned (.plain (OpenSpec.ofChange adjustSumsSpec)) adjustSumsCard

/-- THE SECOND FORM's CARD OF 'cardnetlaw47.AdjustHolder'. -/
def adjustHolderUptoCard : Claim7 := { stood := { row := adjustHolderUptoRow, standIns := [], harness := (true, "5db355432f74913d09779a53559e8700bddf039f94246ff257da8d2a1d8b04ab"), looks := false }, kinds := [], alts := [], laidByText := true, laidKinds := [.data, .data, .data], laidTests := true, laidLooks := .later }
def AdjustHolderUptoCardSaid : Prop := Claim7.holds Tryd.pinned (.plain (OpenSpec.upto adjustHolderSpec)) adjustHolderUptoCard

/-- THE SECOND FORM's CARD OF 'cardnetlaw47.AdjustMoves'. -/
def adjustMovesUptoCard : Claim7 := { stood := { row := adjustMovesUptoRow, standIns := [], harness := (true, "5db355432f74913d09779a53559e8700bddf039f94246ff257da8d2a1d8b04ab"), looks := false }, kinds := [], alts := [], laidByText := true, laidKinds := [.data, .data, .data], laidTests := true, laidLooks := .later }
def AdjustMovesUptoCardSaid : Prop := Claim7.holds Tryd.pinned (.plain (OpenSpec.upto adjustMovesSpec)) adjustMovesUptoCard

/-- THE SECOND FORM's CARD OF 'cardnetlaw47.AdjustLists'. -/
def adjustListsUptoCard : Claim7 := { stood := { row := adjustListsUptoRow, standIns := [], harness := (true, "5db355432f74913d09779a53559e8700bddf039f94246ff257da8d2a1d8b04ab"), looks := false }, kinds := [], alts := [], laidByText := true, laidKinds := [.data, .data, .data], laidTests := true, laidLooks := .later }
def AdjustListsUptoCardSaid : Prop := Claim7.holds Tryd.pinned (.plain (OpenSpec.upto adjustListsSpec)) adjustListsUptoCard

/-- THE SECOND FORM's CARD OF 'cardnetlaw47.AdjustSums'. -/
def adjustSumsUptoCard : Claim7 := { stood := { row := adjustSumsUptoRow, standIns := [], harness := (true, "5db355432f74913d09779a53559e8700bddf039f94246ff257da8d2a1d8b04ab"), looks := false }, kinds := [], alts := [], laidByText := true, laidKinds := [.data, .data, .data], laidTests := true, laidLooks := .later }
def AdjustSumsUptoCardSaid : Prop := Claim7.holds Tryd.pinned (.plain (OpenSpec.upto adjustSumsSpec)) adjustSumsUptoCard
end Rows
end Go.Proofs.YtejcnpllodgmlaaDoor
