/-
  No cell of these rows narrows 'for every input' (looked for: loops, veiled, ifaces, maps, wideKeys, modest, calm, conditions, laid).
  DERIVED. THE GIVEN ROWS OF THIS SEAT. 4 by the template 'for every input the law returns true; each argument reads behind the call as it read before'; 0 by the template 'total and deterministic' (their statements: YtmjkjpjjckcihaaTotals.lean).
  GIVEN WITH THE SEED: the statements are not yours to turn. If you find one false, say at which input.
  Laid BY PROGRAM, IN A SANDBOX (cutbox-rows.mjs): the forced cells as the released guide's own fill.sh prints them over the translation 84de64908b028f7c… (all of the seat's roots in one cut). By AI agents, Wed Nov 11 2026. No macro, syntax, notation, axiom, sorry.
-/
import Derived.Test.YtmjkjpjjckcihaaChecked
import GoSem.Claim
import GoSem.ClaimJoined
import GoSem.ClaimMapViews
import Derived.JoinedTies
import Derived.KernelRfl
namespace Go.Proofs.Ytmjkjpjjckcihaa
/- THE CELL 'sum', in the pinned program and in every row, IS THE sha256 OF THE DUMP (.gsa) THAT YtmjkjpjjckcihaaProg.lean LOADS. Nothing in Lean hashes anything: it is a label: what it is worth is what the hold of that sum in a sandbox is worth. -/
noncomputable def Try.pinned : Pinned := { name := "ytmjkjpjjckcihaa", sum := "84de64908b028f7c0746f7e0b3e2b9caf59e02cb0d850238c3b4cb3609aa2428", checked := Try.checked }
namespace Rows
def none {H : Type} : Left H := { results := [], args := [] }

/-- 'cardnetlaw28.StandinCalls': WHATEVER THE INPUT: true; the input reads as it did. -/
def standinCallsSpec : ChangeSpec := { name := "standinCalls", fn := fun _ => fun
  | [d1, d2] => { results := [.lit (.bool true)], args := [d1, d2] }
  | _ => none }
def standinCallsRow : OpenClaim := { program := "ytmjkjpjjckcihaa", sum := "84de64908b028f7c0746f7e0b3e2b9caf59e02cb0d850238c3b4cb3609aa2428", func := "cardnet/cardnetlaw28.StandinCalls", spec := "standinCalls", inPlace := ["internal/bytealg.IndexByteString", "internal/bytealg.IndexString"], named := ["internal/bytealg.MaxLen"], apart := false }
def StandinCallsSaid : Prop := standinCallsRow.holds Try.pinned (OpenSpec.ofChange standinCallsSpec)

/-- ITS FALSE NEIGHBOUR: 'it returns false'. Refute it at one input. -/
def standinCallsWrong : ChangeSpec := { name := "standinCalls", fn := fun _ => fun
  | [d1, d2] => { results := [.lit (.bool false)], args := [d1, d2] }
  | _ => none }
def StandinCallsWrongFalsely : Prop := standinCallsRow.holds Try.pinned (OpenSpec.ofChange standinCallsWrong)

/-- 'cardnetlaw28.StandinLimits': WHATEVER THE INPUT: true; the input reads as it did. -/
def standinLimitsSpec : ChangeSpec := { name := "standinLimits", fn := fun _ => fun
  | [d1, d2, d3, d4] => { results := [.lit (.bool true)], args := [d1, d2, d3, d4] }
  | _ => none }
def standinLimitsRow : OpenClaim := { program := "ytmjkjpjjckcihaa", sum := "84de64908b028f7c0746f7e0b3e2b9caf59e02cb0d850238c3b4cb3609aa2428", func := "cardnet/cardnetlaw28.StandinLimits", spec := "standinLimits", inPlace := ["internal/bytealg.IndexByteString", "internal/bytealg.IndexString"], named := ["internal/bytealg.MaxLen"], apart := false }
def StandinLimitsSaid : Prop := standinLimitsRow.holds Try.pinned (OpenSpec.ofChange standinLimitsSpec)

/-- ITS FALSE NEIGHBOUR: 'it returns false'. Refute it at one input. -/
def standinLimitsWrong : ChangeSpec := { name := "standinLimits", fn := fun _ => fun
  | [d1, d2, d3, d4] => { results := [.lit (.bool false)], args := [d1, d2, d3, d4] }
  | _ => none }
def StandinLimitsWrongFalsely : Prop := standinLimitsRow.holds Try.pinned (OpenSpec.ofChange standinLimitsWrong)

/-- 'cardnetlaw28.StandinAdvices': WHATEVER THE INPUT: true; the input reads as it did. -/
def standinAdvicesSpec : ChangeSpec := { name := "standinAdvices", fn := fun _ => fun
  | [d] => { results := [.lit (.bool true)], args := [d] }
  | _ => none }
def standinAdvicesRow : OpenClaim := { program := "ytmjkjpjjckcihaa", sum := "84de64908b028f7c0746f7e0b3e2b9caf59e02cb0d850238c3b4cb3609aa2428", func := "cardnet/cardnetlaw28.StandinAdvices", spec := "standinAdvices", inPlace := ["internal/bytealg.IndexByteString", "internal/bytealg.IndexString"], named := ["internal/bytealg.MaxLen"], apart := false }
def StandinAdvicesSaid : Prop := standinAdvicesRow.holds Try.pinned (OpenSpec.ofChange standinAdvicesSpec)

/-- ITS FALSE NEIGHBOUR: 'it returns false'. Refute it at one input. -/
def standinAdvicesWrong : ChangeSpec := { name := "standinAdvices", fn := fun _ => fun
  | [d] => { results := [.lit (.bool false)], args := [d] }
  | _ => none }
def StandinAdvicesWrongFalsely : Prop := standinAdvicesRow.holds Try.pinned (OpenSpec.ofChange standinAdvicesWrong)

/-- 'cardnetlaw28.StandinNobody': WHATEVER THE INPUT: true; the input reads as it did. -/
def standinNobodySpec : ChangeSpec := { name := "standinNobody", fn := fun _ => fun
  | [d] => { results := [.lit (.bool true)], args := [d] }
  | _ => none }
def standinNobodyRow : OpenClaim := { program := "ytmjkjpjjckcihaa", sum := "84de64908b028f7c0746f7e0b3e2b9caf59e02cb0d850238c3b4cb3609aa2428", func := "cardnet/cardnetlaw28.StandinNobody", spec := "standinNobody", inPlace := ["internal/bytealg.IndexByteString", "internal/bytealg.IndexString"], named := ["internal/bytealg.MaxLen"], apart := false }
def StandinNobodySaid : Prop := standinNobodyRow.holds Try.pinned (OpenSpec.ofChange standinNobodySpec)

/-- ITS FALSE NEIGHBOUR: 'it returns false'. Refute it at one input. -/
def standinNobodyWrong : ChangeSpec := { name := "standinNobody", fn := fun _ => fun
  | [d] => { results := [.lit (.bool false)], args := [d] }
  | _ => none }
def StandinNobodyWrongFalsely : Prop := standinNobodyRow.holds Try.pinned (OpenSpec.ofChange standinNobodyWrong)

/- THE SECOND FORM. 'bulk': how many values and letters a reading holds, each counted each time it is reached (what is shared counts as often as it is met; a slice's spare places count too). A statement '..UptoSaid' is the law's where the arguments, and the package variables that the reading takes, are together of bulk at most 1048576: NARROWER than '..Said'. Prove '..Said' where nothing that the law and all that it calls make is longer than what came in: it says more and counts as full. Else prove '..UptoSaid'. A law counts once. -/
mutual
def uptoBulk {H : Type} : DataW H → Nat
  | .lit (.string bytes) => bytes.length + 1
  | .lit _ => 1
  | .nil => 1
  | .ptr d => uptoBulk d + 1
  | .slice elems spare => uptoBulkAll elems + uptoBulkAll spare + 1
  | .agg parts => uptoBulkAll parts + 1
  | .iface _ d => uptoBulk d + 1
  | .map entries => uptoBulkEntries entries + 1
  | .held _ => 1
def uptoBulkAll {H : Type} : List (DataW H) → Nat
  | [] => 0
  | d :: r => uptoBulk d + uptoBulkAll r
def uptoBulkEntries {H : Type} : List (Lit × DataW H) → Nat
  | [] => 0
  | x :: r => uptoBulkEntry x + uptoBulkEntries r
def uptoBulkEntry {H : Type} : Lit × DataW H → Nat
  | (.string bytes, d) => bytes.length + uptoBulk d + 1
  | (_, d) => uptoBulk d + 1
 end
def uptoSmall : (H : Type) → List (DataW H) → Bool := fun _ ds => decide (uptoBulkAll ds ≤ 1048576)
def OpenSpec.upto (s : _root_.Go.ChangeSpec) : _root_.Go.OpenSpec := { _root_.Go.OpenSpec.ofChange s with cond := some uptoSmall }

/-- 'cardnetlaw28.StandinCalls', WHERE WHAT IT READS IS OF BULK AT MOST 1048576: true; the input reads as it did. -/
def standinCallsUptoRow : OpenClaim := { program := "ytmjkjpjjckcihaa", sum := "84de64908b028f7c0746f7e0b3e2b9caf59e02cb0d850238c3b4cb3609aa2428", func := "cardnet/cardnetlaw28.StandinCalls", spec := "standinCalls", inPlace := ["internal/bytealg.IndexByteString", "internal/bytealg.IndexString"], named := ["internal/bytealg.MaxLen"], apart := false, narrowed := true }
def StandinCallsUptoSaid : Prop := standinCallsUptoRow.holds Try.pinned (OpenSpec.upto standinCallsSpec)

/-- 'cardnetlaw28.StandinLimits', WHERE WHAT IT READS IS OF BULK AT MOST 1048576: true; the input reads as it did. -/
def standinLimitsUptoRow : OpenClaim := { program := "ytmjkjpjjckcihaa", sum := "84de64908b028f7c0746f7e0b3e2b9caf59e02cb0d850238c3b4cb3609aa2428", func := "cardnet/cardnetlaw28.StandinLimits", spec := "standinLimits", inPlace := ["internal/bytealg.IndexByteString", "internal/bytealg.IndexString"], named := ["internal/bytealg.MaxLen"], apart := false, narrowed := true }
def StandinLimitsUptoSaid : Prop := standinLimitsUptoRow.holds Try.pinned (OpenSpec.upto standinLimitsSpec)

/-- 'cardnetlaw28.StandinAdvices', WHERE WHAT IT READS IS OF BULK AT MOST 1048576: true; the input reads as it did. -/
def standinAdvicesUptoRow : OpenClaim := { program := "ytmjkjpjjckcihaa", sum := "84de64908b028f7c0746f7e0b3e2b9caf59e02cb0d850238c3b4cb3609aa2428", func := "cardnet/cardnetlaw28.StandinAdvices", spec := "standinAdvices", inPlace := ["internal/bytealg.IndexByteString", "internal/bytealg.IndexString"], named := ["internal/bytealg.MaxLen"], apart := false, narrowed := true }
def StandinAdvicesUptoSaid : Prop := standinAdvicesUptoRow.holds Try.pinned (OpenSpec.upto standinAdvicesSpec)

/-- 'cardnetlaw28.StandinNobody', WHERE WHAT IT READS IS OF BULK AT MOST 1048576: true; the input reads as it did. -/
def standinNobodyUptoRow : OpenClaim := { program := "ytmjkjpjjckcihaa", sum := "84de64908b028f7c0746f7e0b3e2b9caf59e02cb0d850238c3b4cb3609aa2428", func := "cardnet/cardnetlaw28.StandinNobody", spec := "standinNobody", inPlace := ["internal/bytealg.IndexByteString", "internal/bytealg.IndexString"], named := ["internal/bytealg.MaxLen"], apart := false, narrowed := true }
def StandinNobodyUptoSaid : Prop := standinNobodyUptoRow.holds Try.pinned (OpenSpec.upto standinNobodySpec)

end Rows
end Go.Proofs.Ytmjkjpjjckcihaa
