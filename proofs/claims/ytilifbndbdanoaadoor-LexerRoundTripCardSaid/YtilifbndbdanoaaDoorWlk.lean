/-
LexerPrints and LexerRoundTrip, walked from a world.
Conditions: none.
-/
import Derived.Test.YtilifbndbdanoaaDoorScn
namespace Go.Proofs.YtilifbndbdanoaaDoor
open Go.Vm
set_option linter.unusedSimpArgs false
set_option linter.unusedVariables false
set_option maxHeartbeats 2000000
set_option maxRecDepth 20000
theorem fitsX {h : Heap} {a : Array Value} (w : Fits h (.st 4 [(0, 1, .int .i64), (1, 1, .str), (2, 1, .int .i64), (3, 1, .int .i64)]) a.toList) : ∃ k t n z, a = #[.int .i64 k, .string t, .int .i64 n, .int .i64 z] ∧ (Lit.int .i64 n).wf = true := by
  obtain ⟨l⟩ := a
  simp only [Fits, FitsL] at w
  obtain ⟨hl, w⟩ := w
  match l, hl with
  | [x0, x1, x2, x3], _ =>
    simp only [List.drop_succ_cons, List.drop_zero, List.take_succ_cons, List.take_zero, List.cons.injEq, and_true, List.length_cons, List.length_nil, true_and] at w
    obtain ⟨⟨_, rfl, _⟩, ⟨_, rfl, _⟩, ⟨_, rfl, w2⟩, ⟨_, rfl, _⟩⟩ := w
    exact ⟨_, _, _, _, rfl, w2⟩
theorem decX {h : Heap} (es : List Value) (hl : es.length = 4) (hf : Fits h (.st 4 [(0, 1, .int .i64), (1, 1, .str), (2, 1, .int .i64), (3, 1, .int .i64)]) es) : ∃ x, lzC x = es := by
  obtain ⟨k, t, n, z, e, _⟩ := fitsX (a := es.toArray) hf
  exact ⟨(⟨k, t, n, 0, 0, 0⟩, z), (congrArg Array.toList e).symm⟩
theorem sizX {h : Heap} {x : LR × Int} (hf : Fits h (.st 4 [(0, 1, .int .i64), (1, 1, .str), (2, 1, .int .i64), (3, 1, .int .i64)]) (lzC x)) : -9223372036854775808 ≤ x.1.n ∧ x.1.n ≤ 9223372036854775807 := by
  obtain ⟨k, t, n, z, e, w⟩ := fitsX (a := (lzC x).toArray) hf
  simp only [lzC, List.toArray_inj, List.cons.injEq, Value.int.injEq, true_and, and_true, Array.mk.injEq] at e
  rw [e.2.2.1]
  simp [Lit.wf, IntKind.min, IntKind.max, IntKind.bits, IntKind.signed] at w
  omega
theorem prints_walk (w : World) (ht : Lib.TabIs Tryd.prog w "internal/strconv.uint64pow10" .u64 Lib.pow10Tab) (a1 : Option Addr) (len1 cap1 : Nat) (w1 : Vm.Fits w.heap (.sl 4 (.st 4 [(0, 1, .int .i64), (1, 1, .str), (2, 1, .int .i64), (3, 1, .int .i64)])) [.slice a1 len1 cap1]) :
    CallsH Tryd.prog 3 #[.slice a1 len1 cap1] w.heap fun e h' => e = .returned (.bool true) ∧ Grew w.heap h' := by
  obtain ⟨B, hB, hT⟩ := TabA.of ht
  obtain ⟨p, cap, L, e1, g1, g2, g3, A, hA, hL⟩ := list_fits lzC (v := .slice a1 len1 cap1) (by decide) decX w1 (by intro c hc; cases hc)
  cases e1
  simp only [maxLen] at g2
  exact callsH_of_pure (printsLaw_v (A ++ B) (hT.mono (sat_sub hA hB)) L _ _ (hL.mono (SubA.left _ _)) (fun x hx => sizX (g3 x hx)) (by omega)) (by kernel_rfl) (hA.both hB)
theorem trip_walk (w : World) (ht : Lib.TabIs Tryd.prog w "internal/strconv.uint64pow10" .u64 Lib.pow10Tab) (s : ByteArray) :
    CallsH Tryd.prog 4 #[.string s] w.heap fun e h' => e = .returned (.bool true) ∧ Grew w.heap h' := by
  obtain ⟨A, hA, hT⟩ := TabA.of ht
  exact callsH_of_pure (tripLaw_v A hT s) (by kernel_rfl) hA
end Go.Proofs.YtilifbndbdanoaaDoor
