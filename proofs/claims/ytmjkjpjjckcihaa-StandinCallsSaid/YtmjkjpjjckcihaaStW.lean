/-
Stand-in: the walk of StandinCalls, from arguments as they come in.
Conditions: none.
-/
import Derived.Test.YtmjkjpjjckcihaaStU
import Derived.Test.YtmjkjpjjckcihaaStG
namespace Go.Proofs.Ytmjkjpjjckcihaa
open Go.Vm
set_option linter.unusedSimpArgs false
set_option linter.unusedVariables false
set_option maxHeartbeats 2000000
set_option maxRecDepth 20000
theorem decOp2 {h : Heap} (es : List Value) (hl : es.length = 6) (hf : Fits h (.st 6 [(0, 1, .int .i64), (1, 1, .int .i64), (2, 1, .str), (3, 1, .str), (4, 1, .str), (5, 1, .int .i64)]) es) : ∃ x, opC x = es := by
  simp only [Fits, FitsL] at hf
  obtain ⟨_, w0⟩ := hf
  match es, hl with
  | [x0, x1, x2, x3, x4, x5], _ =>
    simp only [List.drop_succ_cons, List.drop_zero, List.take_succ_cons, List.take_zero, List.cons.injEq, and_true, List.length_cons, List.length_nil, true_and] at w0
    obtain ⟨⟨k, rfl, _⟩, ⟨t, rfl, _⟩, ⟨a, rfl, _⟩, ⟨b, rfl, _⟩, ⟨c, rfl, _⟩, ⟨m, rfl, _⟩⟩ := w0
    exact ⟨⟨k, t, a.data.toList, b.data.toList, c.data.toList, m⟩, by simp only [opC, ← bs_of]⟩
theorem decLim {h : Heap} (es : List Value) (hl : es.length = 4) (hf : Fits h (.st 4 [(0, 1, .str), (1, 1, .int .i64), (2, 1, .int .i64), (3, 1, .int .i64)]) es) : ∃ x, limC x = es := by
  simp only [Fits, FitsL] at hf
  obtain ⟨_, w0⟩ := hf
  match es, hl with
  | [x0, x1, x2, x3], _ =>
    simp only [List.drop_succ_cons, List.drop_zero, List.take_succ_cons, List.take_zero, List.cons.injEq, and_true, List.length_cons, List.length_nil, true_and] at w0
    obtain ⟨⟨a, rfl, _⟩, ⟨k, rfl, _⟩, ⟨t, rfl, _⟩, ⟨m, rfl, _⟩⟩ := w0
    exact ⟨⟨a.data.toList, k, t, m⟩, by simp only [limC, ← bs_of]⟩
theorem calls_walk (h : Heap) (a0 : Option Addr) (len0 cap0 : Nat) (w0 : Vm.Fits h (.sl 4 (.st 4 [(0, 1, .str), (1, 1, .int .i64), (2, 1, .int .i64), (3, 1, .int .i64)])) [.slice a0 len0 cap0]) (a1 : Option Addr) (len1 cap1 : Nat) (w1 : Vm.Fits h (.sl 6 (.st 6 [(0, 1, .int .i64), (1, 1, .int .i64), (2, 1, .str), (3, 1, .str), (4, 1, .str), (5, 1, .int .i64)])) [.slice a1 len1 cap1]) : CallsH Try.prog 3 #[.slice a0 len0 cap0, .slice a1 len1 cap1] h fun e h' => e = .returned (.bool true) ∧ Grew h h' := by
  obtain ⟨p, cap, M, e1, hl1, hl2, hb, A, hA, hL⟩ := list_fits limC (v := .slice a0 len0 cap0) (by decide) decLim w0 (by intro c hc; cases hc)
  cases e1
  obtain ⟨p', cap', L, e1', hl1', hl2', hb', B, hB, hL'⟩ := list_fits opC (v := .slice a1 len1 cap1) (by decide) decOp2 w1 (by intro c hc; cases hc)
  cases e1'
  have hm : cap0 ≤ 9223372036854775807 := by simpa only [maxLen] using hl2
  have hm' : cap1 ≤ 9223372036854775807 := by simpa only [maxLen] using hl2'
  exact callsH_of_pure (callsLaw_v (A ++ B) M L _ _ _ _ (hL.mono (SubA.left _ _)) (hL'.mono (sat_sub hA hB)) (by omega) (by omega)) (by kernel_rfl) (hA.both hB)
end Go.Proofs.Ytmjkjpjjckcihaa
