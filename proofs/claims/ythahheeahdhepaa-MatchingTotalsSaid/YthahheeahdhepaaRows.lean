/-
  No cell of these rows narrows 'for every input' (looked for: loops, veiled, ifaces, maps, wideKeys, modest, calm, conditions, laid).
  DERIVED. THE GIVEN ROWS OF THIS SEAT. 4 by the template 'for every input the law returns true; each argument reads behind the call as it read before'; 0 by the template 'total and deterministic' (their statements: YthahheeahdhepaaTotals.lean).
  GIVEN WITH THE SEED: the statements are not yours to turn. If you find one false, say at which input.
  Laid BY PROGRAM, IN A SANDBOX (cutbox-rows.mjs): the forced cells as the released guide's own fill.sh prints them over the translation 7192d38378b0dbfa… (all of the seat's roots in one cut). By AI agents, Wed Nov 11 2026. No macro, syntax, notation, axiom, sorry.
-/
import Derived.Test.YthahheeahdhepaaChecked
import GoSem.Claim
import GoSem.ClaimJoined
import GoSem.ClaimMapViews
import Derived.JoinedTies
import Derived.KernelRfl
namespace Go.Proofs.Ythahheeahdhepaa
/- THE CELL 'sum', in the pinned program and in every row, IS THE sha256 OF THE DUMP (.gsa) THAT YthahheeahdhepaaProg.lean LOADS. Nothing in Lean hashes anything: it is a label: what it is worth is what the hold of that sum in a sandbox is worth. -/
noncomputable def Try.pinned : Pinned := { name := "ythahheeahdhepaa", sum := "7192d38378b0dbfa206f9a10304e7316cc4a6f9585328bb6570c4f270aae8ce0", checked := Try.checked }
namespace Rows
def none {H : Type} : Left H := { results := [], args := [] }

/-- 'cardnetlaw35.MatchingApplies': WHATEVER THE INPUT: true; the input reads as it did. -/
def matchingAppliesSpec : ChangeSpec := { name := "matchingApplies", fn := fun _ => fun
  | [d1, d2, d3, d4] => { results := [.lit (.bool true)], args := [d1, d2, d3, d4] }
  | _ => none }
def matchingAppliesRow : OpenClaim := { program := "ythahheeahdhepaa", sum := "7192d38378b0dbfa206f9a10304e7316cc4a6f9585328bb6570c4f270aae8ce0", func := "cardnet/cardnetlaw35.MatchingApplies", spec := "matchingApplies", inPlace := ["internal/bytealg.IndexByteString", "internal/bytealg.IndexString"], unfollowed := true, recurses := true, named := ["internal/bytealg.MaxLen"], apart := false }
def MatchingAppliesSaid : Prop := matchingAppliesRow.holds Try.pinned (OpenSpec.ofChange matchingAppliesSpec)

/-- ITS FALSE NEIGHBOUR: 'it returns false'. Refute it at one input. -/
def matchingAppliesWrong : ChangeSpec := { name := "matchingApplies", fn := fun _ => fun
  | [d1, d2, d3, d4] => { results := [.lit (.bool false)], args := [d1, d2, d3, d4] }
  | _ => none }
def MatchingAppliesWrongFalsely : Prop := matchingAppliesRow.holds Try.pinned (OpenSpec.ofChange matchingAppliesWrong)

/-- 'cardnetlaw35.MatchingConserves': WHATEVER THE INPUT: true; the input reads as it did. -/
def matchingConservesSpec : ChangeSpec := { name := "matchingConserves", fn := fun _ => fun
  | [d1, d2, d3] => { results := [.lit (.bool true)], args := [d1, d2, d3] }
  | _ => none }
def matchingConservesRow : OpenClaim := { program := "ythahheeahdhepaa", sum := "7192d38378b0dbfa206f9a10304e7316cc4a6f9585328bb6570c4f270aae8ce0", func := "cardnet/cardnetlaw35.MatchingConserves", spec := "matchingConserves", inPlace := ["internal/bytealg.IndexByteString", "internal/bytealg.IndexString"], unfollowed := true, recurses := true, named := ["internal/bytealg.MaxLen"], apart := false }
def MatchingConservesSaid : Prop := matchingConservesRow.holds Try.pinned (OpenSpec.ofChange matchingConservesSpec)

/-- ITS FALSE NEIGHBOUR: 'it returns false'. Refute it at one input. -/
def matchingConservesWrong : ChangeSpec := { name := "matchingConserves", fn := fun _ => fun
  | [d1, d2, d3] => { results := [.lit (.bool false)], args := [d1, d2, d3] }
  | _ => none }
def MatchingConservesWrongFalsely : Prop := matchingConservesRow.holds Try.pinned (OpenSpec.ofChange matchingConservesWrong)

/-- 'cardnetlaw35.MatchingRuns': WHATEVER THE INPUT: true; the input reads as it did. -/
def matchingRunsSpec : ChangeSpec := { name := "matchingRuns", fn := fun _ => fun
  | [d1, d2, d3] => { results := [.lit (.bool true)], args := [d1, d2, d3] }
  | _ => none }
def matchingRunsRow : OpenClaim := { program := "ythahheeahdhepaa", sum := "7192d38378b0dbfa206f9a10304e7316cc4a6f9585328bb6570c4f270aae8ce0", func := "cardnet/cardnetlaw35.MatchingRuns", spec := "matchingRuns", inPlace := ["internal/bytealg.IndexByteString", "internal/bytealg.IndexString"], unfollowed := true, recurses := true, named := ["internal/bytealg.MaxLen"], apart := false }
def MatchingRunsSaid : Prop := matchingRunsRow.holds Try.pinned (OpenSpec.ofChange matchingRunsSpec)

/-- ITS FALSE NEIGHBOUR: 'it returns false'. Refute it at one input. -/
def matchingRunsWrong : ChangeSpec := { name := "matchingRuns", fn := fun _ => fun
  | [d1, d2, d3] => { results := [.lit (.bool false)], args := [d1, d2, d3] }
  | _ => none }
def MatchingRunsWrongFalsely : Prop := matchingRunsRow.holds Try.pinned (OpenSpec.ofChange matchingRunsWrong)

/-- 'cardnetlaw35.MatchingTotals': WHATEVER THE INPUT: true; the input reads as it did. -/
def matchingTotalsSpec : ChangeSpec := { name := "matchingTotals", fn := fun _ => fun
  | [d1, d2, d3] => { results := [.lit (.bool true)], args := [d1, d2, d3] }
  | _ => none }
def matchingTotalsRow : OpenClaim := { program := "ythahheeahdhepaa", sum := "7192d38378b0dbfa206f9a10304e7316cc4a6f9585328bb6570c4f270aae8ce0", func := "cardnet/cardnetlaw35.MatchingTotals", spec := "matchingTotals", inPlace := ["internal/bytealg.IndexByteString", "internal/bytealg.IndexString"], unfollowed := true, recurses := true, named := ["internal/bytealg.MaxLen"], apart := false }
def MatchingTotalsSaid : Prop := matchingTotalsRow.holds Try.pinned (OpenSpec.ofChange matchingTotalsSpec)

/-- ITS FALSE NEIGHBOUR: 'it returns false'. Refute it at one input. -/
def matchingTotalsWrong : ChangeSpec := { name := "matchingTotals", fn := fun _ => fun
  | [d1, d2, d3] => { results := [.lit (.bool false)], args := [d1, d2, d3] }
  | _ => none }
def MatchingTotalsWrongFalsely : Prop := matchingTotalsRow.holds Try.pinned (OpenSpec.ofChange matchingTotalsWrong)

/- THE SECOND FORM. 'bulk': how many values and letters a reading holds, each counted each time it is reached (what is shared counts as often as it is met; a slice's spare places count too). A statement '..UptoSaid' is the law's where the arguments, and the package variables that the reading takes, are together of bulk at most 1048576: NARROWER than '..Said'. Prove '..Said' where nothing that the law and all that it calls make is longer than what came in: it says more and counts as full. Else prove '..UptoSaid'. A law counts once. -/
mutual
def uptoBulk {H : Type} : DataW H → Nat
  | .lit (.string bytes) => bytes.length + 1
  | .lit _ => 1
  | .nil => 1
  | .ptr d => uptoBulk d + 1
  | .slice elems spare => uptoBulkAll elems + uptoBulkAll spare + 1
  | .agg parts => uptoBulkAll parts + 1
  | .iface _ d => uptoBulk d + 1
  | .map entries => uptoBulkEntries entries + 1
  | .held _ => 1
def uptoBulkAll {H : Type} : List (DataW H) → Nat
  | [] => 0
  | d :: r => uptoBulk d + uptoBulkAll r
def uptoBulkEntries {H : Type} : List (Lit × DataW H) → Nat
  | [] => 0
  | x :: r => uptoBulkEntry x + uptoBulkEntries r
def uptoBulkEntry {H : Type} : Lit × DataW H → Nat
  | (.string bytes, d) => bytes.length + uptoBulk d + 1
  | (_, d) => uptoBulk d + 1
 end
def uptoSmall : (H : Type) → List (DataW H) → Bool := fun _ ds => decide (uptoBulkAll ds ≤ 1048576)
def OpenSpec.upto (s : _root_.Go.ChangeSpec) : _root_.Go.OpenSpec := { _root_.Go.OpenSpec.ofChange s with cond := some uptoSmall }

/-- 'cardnetlaw35.MatchingApplies', WHERE WHAT IT READS IS OF BULK AT MOST 1048576: true; the input reads as it did. -/
def matchingAppliesUptoRow : OpenClaim := { program := "ythahheeahdhepaa", sum := "7192d38378b0dbfa206f9a10304e7316cc4a6f9585328bb6570c4f270aae8ce0", func := "cardnet/cardnetlaw35.MatchingApplies", spec := "matchingApplies", inPlace := ["internal/bytealg.IndexByteString", "internal/bytealg.IndexString"], unfollowed := true, recurses := true, named := ["internal/bytealg.MaxLen"], apart := false, narrowed := true }
def MatchingAppliesUptoSaid : Prop := matchingAppliesUptoRow.holds Try.pinned (OpenSpec.upto matchingAppliesSpec)

/-- 'cardnetlaw35.MatchingConserves', WHERE WHAT IT READS IS OF BULK AT MOST 1048576: true; the input reads as it did. -/
def matchingConservesUptoRow : OpenClaim := { program := "ythahheeahdhepaa", sum := "7192d38378b0dbfa206f9a10304e7316cc4a6f9585328bb6570c4f270aae8ce0", func := "cardnet/cardnetlaw35.MatchingConserves", spec := "matchingConserves", inPlace := ["internal/bytealg.IndexByteString", "internal/bytealg.IndexString"], unfollowed := true, recurses := true, named := ["internal/bytealg.MaxLen"], apart := false, narrowed := true }
def MatchingConservesUptoSaid : Prop := matchingConservesUptoRow.holds Try.pinned (OpenSpec.upto matchingConservesSpec)

/-- 'cardnetlaw35.MatchingRuns', WHERE WHAT IT READS IS OF BULK AT MOST 1048576: true; the input reads as it did. -/
def matchingRunsUptoRow : OpenClaim := { program := "ythahheeahdhepaa", sum := "7192d38378b0dbfa206f9a10304e7316cc4a6f9585328bb6570c4f270aae8ce0", func := "cardnet/cardnetlaw35.MatchingRuns", spec := "matchingRuns", inPlace := ["internal/bytealg.IndexByteString", "internal/bytealg.IndexString"], unfollowed := true, recurses := true, named := ["internal/bytealg.MaxLen"], apart := false, narrowed := true }
def MatchingRunsUptoSaid : Prop := matchingRunsUptoRow.holds Try.pinned (OpenSpec.upto matchingRunsSpec)

/-- 'cardnetlaw35.MatchingTotals', WHERE WHAT IT READS IS OF BULK AT MOST 1048576: true; the input reads as it did. -/
def matchingTotalsUptoRow : OpenClaim := { program := "ythahheeahdhepaa", sum := "7192d38378b0dbfa206f9a10304e7316cc4a6f9585328bb6570c4f270aae8ce0", func := "cardnet/cardnetlaw35.MatchingTotals", spec := "matchingTotals", inPlace := ["internal/bytealg.IndexByteString", "internal/bytealg.IndexString"], unfollowed := true, recurses := true, named := ["internal/bytealg.MaxLen"], apart := false, narrowed := true }
def MatchingTotalsUptoSaid : Prop := matchingTotalsUptoRow.holds Try.pinned (OpenSpec.upto matchingTotalsSpec)

end Rows
end Go.Proofs.Ythahheeahdhepaa
