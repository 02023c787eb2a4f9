/-
  DERIVED. GIVEN WITH THE SEED: THE CARDS: each row of YtoonmogjjddeeaaDoorRows.lean that lists a variable, with what it lists TIED to the program's text (the seventh form; the later family's looks); each row that meets fmt, with fmt's text TOLD by the authors' own Lean function (tested against real Go, not proved from fmt's source: count such statements apart). THE CARD IS WHAT COUNTS. Prove the row's statement (the work); the ties are given (YtoonmogjjddeeaaDoorTie.lean); close each card by the builder's one call (the guide's Derived/Test/ToyasCard.lean, 'card_holds'). Laid BY PROGRAM, IN A SANDBOX (cutbox-door.mjs). By AI agents, Wed Nov 11 2026. No macro, syntax, notation, axiom, sorry.
-/
import Derived.Test.YtoonmogjjddeeaaDoorRows
import GoSem.ClaimSeven
namespace Go.Proofs.YtoonmogjjddeeaaDoor
namespace Rows

/-- THE TIED CARD OF 'cardnetlaw15.TokenDomains'. -/
def tokenDomainsCard : Claim7 := { stood := { row := tokenDomainsRow, standIns := [], harness := (true, "d44cd6187c408306c5bd22563afa80fd5367974426c3d4d502bff7817f86b6e5"), looks := false }, kinds := [], alts := [], laidByText := true, laidKinds := [.data, .data, .data], laidTests := true, laidLooks := .later }
def TokenDomainsCardSaid : Prop := Claim7.holds Tryd.pinned (.plain (OpenSpec.ofChange tokenDomainsSpec)) tokenDomainsCard

/-- THE TIED CARD OF 'cardnetlaw15.TokenOnce'. -/
def tokenOnceCard : Claim7 := { stood := { row := tokenOnceRow, standIns := [], harness := (true, "d44cd6187c408306c5bd22563afa80fd5367974426c3d4d502bff7817f86b6e5"), looks := false }, kinds := [], alts := [], laidByText := true, laidKinds := [.data, .data, .data], laidTests := true, laidLooks := .later }
def TokenOnceCardSaid : Prop := Claim7.holds Tryd.pinned (.plain (OpenSpec.ofChange tokenOnceSpec)) tokenOnceCard

/-- THE TIED CARD OF 'cardnetlaw15.TokenVaults'. -/
def tokenVaultsCard : Claim7 := { stood := { row := tokenVaultsRow, standIns := [], harness := (true, "d44cd6187c408306c5bd22563afa80fd5367974426c3d4d502bff7817f86b6e5"), looks := false }, kinds := [], alts := [], laidByText := true, laidKinds := [.data, .data, .data], laidTests := true, laidLooks := .later }
def TokenVaultsCardSaid : Prop := Claim7.holds Tryd.pinned (.plain (OpenSpec.ofChange tokenVaultsSpec)) tokenVaultsCard

/-- THE SECOND FORM's CARD OF 'cardnetlaw15.TokenDomains'. -/
def tokenDomainsUptoCard : Claim7 := { stood := { row := tokenDomainsUptoRow, standIns := [], harness := (true, "d44cd6187c408306c5bd22563afa80fd5367974426c3d4d502bff7817f86b6e5"), looks := false }, kinds := [], alts := [], laidByText := true, laidKinds := [.data, .data, .data], laidTests := true, laidLooks := .later }
def TokenDomainsUptoCardSaid : Prop := Claim7.holds Tryd.pinned (.plain (OpenSpec.upto tokenDomainsSpec)) tokenDomainsUptoCard

/-- THE SECOND FORM's CARD OF 'cardnetlaw15.TokenOnce'. -/
def tokenOnceUptoCard : Claim7 := { stood := { row := tokenOnceUptoRow, standIns := [], harness := (true, "d44cd6187c408306c5bd22563afa80fd5367974426c3d4d502bff7817f86b6e5"), looks := false }, kinds := [], alts := [], laidByText := true, laidKinds := [.data, .data, .data], laidTests := true, laidLooks := .later }
def TokenOnceUptoCardSaid : Prop := Claim7.holds Tryd.pinned (.plain (OpenSpec.upto tokenOnceSpec)) tokenOnceUptoCard

/-- THE SECOND FORM's CARD OF 'cardnetlaw15.TokenVaults'. -/
def tokenVaultsUptoCard : Claim7 := { stood := { row := tokenVaultsUptoRow, standIns := [], harness := (true, "d44cd6187c408306c5bd22563afa80fd5367974426c3d4d502bff7817f86b6e5"), looks := false }, kinds := [], alts := [], laidByText := true, laidKinds := [.data, .data, .data], laidTests := true, laidLooks := .later }
def TokenVaultsUptoCardSaid : Prop := Claim7.holds Tryd.pinned (.plain (OpenSpec.upto tokenVaultsSpec)) tokenVaultsUptoCard
end Rows
end Go.Proofs.YtoonmogjjddeeaaDoor
