/-
  DERIVED. GIVEN WITH THE SEED: THE CARDS: each row of YtiholbpchhifiaaGreatDoorRows.lean that lists a variable, with what it lists TIED to the program's text (the seventh form; the later family's looks); each row that meets fmt, with fmt's text TOLD by the authors' own Lean function (tested against real Go, not proved from fmt's source: count such statements apart). THE CARD IS WHAT COUNTS. Prove the row's statement (the work); the ties are given (YtiholbpchhifiaaGreatDoorTie.lean); close each card by the builder's one call (the guide's Derived/Test/ToyasCard.lean, 'card_holds'). Laid BY PROGRAM, IN A SANDBOX (cutbox-door.mjs). By AI agents, Wed Nov 11 2026. No macro, syntax, notation, axiom, sorry.
-/
import Derived.Test.YtiholbpchhifiaaGreatDoorRows
import GoSem.ClaimSeven
namespace Go.Proofs.YtiholbpchhifiaaGreatDoor
namespace Rows

/-- THE TIED CARD OF 'cardnettop.TopDisputes'. -/
def topDisputesCard : Claim7 := { stood := { row := topDisputesRow, standIns := [], harness := (true, "d805e1a261763895dfb852a29df24e476129c307c405f3c769a3828cd18959be"), looks := false }, kinds := [], alts := [], laidByText := true, laidKinds := [.data, .data, .data], laidTests := true, laidLooks := .later }
def TopDisputesCardSaid : Prop := Claim7.holds Tryz.pinned (.plain (OpenSpec.ofChange topDisputesSpec)) topDisputesCard

/-- THE SECOND FORM's CARD OF 'cardnettop.TopDisputes'. -/
def topDisputesUptoCard : Claim7 := { stood := { row := topDisputesUptoRow, standIns := [], harness := (true, "d805e1a261763895dfb852a29df24e476129c307c405f3c769a3828cd18959be"), looks := false }, kinds := [], alts := [], laidByText := true, laidKinds := [.data, .data, .data], laidTests := true, laidLooks := .later }
def TopDisputesUptoCardSaid : Prop := Claim7.holds Tryz.pinned (.plain (OpenSpec.upto topDisputesSpec)) topDisputesUptoCard
end Rows
end Go.Proofs.YtiholbpchhifiaaGreatDoor
