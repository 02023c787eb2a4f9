/-
Disputes: the walk of DisputeEnds.
Conditions: none.
-/
import Derived.Test.YtkkpmcomloekoaaDsf
import Derived.Test.YtkkpmcomloekoaaDsw
namespace Go.Proofs.Ytkkpmcomloekoaa
open Go.Vm
theorem ends_walk (h : Heap) (a0 : Option Addr) (len0 cap0 : Nat) (w0 : Vm.Fits h (.sl 7 (.st 7 [(0, 1, .str), (1, 1, .int .i64), (2, 1, .int .i64), (3, 1, .int .i64), (4, 1, .int .i64), (5, 1, .sl 1 .str), (6, 1, .sl 1 .str)])) [.slice a0 len0 cap0]) (a1 : Option Addr) (len1 cap1 : Nat) (w1 : Vm.Fits h (.sl 19 (.st 19 [(0, 1, .int .u8), (1, 1, .str), (2, 1, .str), (3, 12, (.st 12 [(0, 1, .int .i64), (1, 1, .str), (2, 1, .str), (3, 1, .str), (4, 1, .str), (5, 1, .str), (6, 1, .str), (7, 2, .st 2 [(0, 1, .int .i64), (1, 1, .str)]), (9, 1, .int .i64), (10, 1, .int .i64), (11, 1, .bool)])), (15, 1, .int .i64), (16, 1, .int .i64), (17, 1, .int .i64), (18, 1, .sl 3 (.st 3 [(0, 1, .str), (1, 1, .int .i64), (2, 1, .int .u64)]))])) [.slice a1 len1 cap1]) :
    CallsH Try.prog 5 #[.slice a0 len0 cap0, .slice a1 len1 cap1] h fun e h' => e = .returned (.bool true) ∧ Grew h h' := by
  obtain ⟨L, M, A, rfl, rfl, l1, l2, hA, hL, hM⟩ := args_in w0 w1
  exact callsH_of_pure (endsLaw_v A L a0 cap0 hL ⟨l1, l2⟩ M a1 cap1 hM) (by kernel_rfl) hA
end Go.Proofs.Ytkkpmcomloekoaa
