/-
Adjustments: the walks of the four laws, from arguments as they come in.
Conditions: none.
-/
import Derived.Test.YtejcnpllodgmlaaDoorAdjH
namespace Go.Proofs.YtejcnpllodgmlaaDoor
open Go.Vm
set_option linter.unusedSimpArgs false
set_option linter.unusedVariables false
set_option maxHeartbeats 2000000
set_option maxRecDepth 20000
theorem fitsZC {N : Nat} {a : Array Value} (z : FitsZ N (.st 10 [(0, 1, .str), (1, 1, .str), (2, 1, .str), (3, 1, .str), (4, 1, .str), (5, 2, .st 2 [(0, 1, .int .i64), (1, 1, .str)]), (7, 1, .int .i64), (8, 1, .int .i64), (9, 1, .int .i64)]) a.toList) : ∃ c : Cs, a = c.cells.toArray ∧ c.id.size ≤ N ∧ c.cu.size ≤ N := by
  obtain ⟨l⟩ := a
  simp only [FitsZ, FitsZL] at z
  obtain ⟨hl, z⟩ := z
  match l, hl with
  | [x0, x1, x2, x3, x4, x5, x6, x7, x8, x9], _ =>
    simp only [List.drop_succ_cons, List.drop_zero, List.take_succ_cons, List.take_zero, List.cons.injEq, and_true, List.length_cons, List.length_nil, true_and] at z
    obtain ⟨⟨_, rfl, b0⟩, ⟨_, rfl, b1⟩, ⟨_, rfl, b2⟩, ⟨_, rfl, b3⟩, ⟨_, rfl, b4⟩, ⟨⟨_, rfl, _⟩, ⟨_, rfl, b6⟩⟩, ⟨_, rfl, _⟩, ⟨_, rfl, _⟩, ⟨_, rfl, _⟩⟩ := z
    exact ⟨⟨_, _, _, _, _, _, _, _, _, _⟩, rfl, b0, b6⟩
theorem fitsZR {N : Nat} {a : Array Value} (z : FitsZ N (.st 12 [(0, 1, .int .i64), (1, 1, .str), (2, 1, .str), (3, 1, .str), (4, 1, .str), (5, 1, .str), (6, 1, .str), (7, 2, .st 2 [(0, 1, .int .i64), (1, 1, .str)]), (9, 1, .int .i64), (10, 1, .int .i64), (11, 1, .bool)]) a.toList) : ∃ r : Rc, a = r.cells.toArray ∧ r.id.size ≤ N ∧ r.au.size ≤ N ∧ r.aq.size ≤ N ∧ r.is.size ≤ N ∧ r.me.size ≤ N ∧ r.ca.size ≤ N ∧ r.cu.size ≤ N := by
  obtain ⟨l⟩ := a
  simp only [FitsZ, FitsZL] at z
  obtain ⟨hl, z⟩ := z
  match l, hl with
  | [x0, x1, x2, x3, x4, x5, x6, x7, x8, x9, x10, x11], _ =>
    simp only [List.drop_succ_cons, List.drop_zero, List.take_succ_cons, List.take_zero, List.cons.injEq, and_true, List.length_cons, List.length_nil, true_and] at z
    obtain ⟨⟨_, rfl, _⟩, ⟨_, rfl, b1⟩, ⟨_, rfl, b2⟩, ⟨_, rfl, b3⟩, ⟨_, rfl, b4⟩, ⟨_, rfl, b5⟩, ⟨_, rfl, b6⟩, ⟨⟨_, rfl, _⟩, ⟨_, rfl, b8⟩⟩, ⟨_, rfl, _⟩, ⟨_, rfl, _⟩, ⟨_, rfl⟩⟩ := z
    exact ⟨⟨_, _, _, _, _, _, _, _, _, _, _, _⟩, rfl, b1, b2, b3, b4, b5, b6, b8⟩
theorem fitsC {h : Heap} {a : Array Value} (w : Fits h (.st 10 [(0, 1, .str), (1, 1, .str), (2, 1, .str), (3, 1, .str), (4, 1, .str), (5, 2, .st 2 [(0, 1, .int .i64), (1, 1, .str)]), (7, 1, .int .i64), (8, 1, .int .i64), (9, 1, .int .i64)]) a.toList) : ∃ c : Cs, a = c.cells.toArray := by
  obtain ⟨l⟩ := a
  simp only [Fits, FitsL] at w
  obtain ⟨hl, w⟩ := w
  match l, hl with
  | [x0, x1, x2, x3, x4, x5, x6, x7, x8, x9], _ =>
    simp only [List.drop_succ_cons, List.drop_zero, List.take_succ_cons, List.take_zero, List.cons.injEq, and_true, List.length_cons, List.length_nil, true_and] at w
    obtain ⟨⟨_, rfl, _⟩, ⟨_, rfl, _⟩, ⟨_, rfl, _⟩, ⟨_, rfl, _⟩, ⟨_, rfl, _⟩, ⟨⟨_, rfl, _⟩, ⟨_, rfl, _⟩⟩, ⟨_, rfl, _⟩, ⟨_, rfl, _⟩, ⟨_, rfl, _⟩⟩ := w
    exact ⟨⟨_, _, _, _, _, _, _, _, _, _⟩, rfl⟩
theorem fitsX {h : Heap} {a : Array Value} (w : Fits h (.st 4 [(0, 1, .int .i64), (1, 1, .int .i64), (2, 1, .int .i64), (3, 1, .int .i64)]) a.toList) : ∃ s t d n, a = #[.int .i64 s, .int .i64 t, .int .i64 d, .int .i64 n] := by
  obtain ⟨l⟩ := a
  simp only [Fits, FitsL] at w
  obtain ⟨hl, w⟩ := w
  match l, hl with
  | [x0, x1, x2, x3], _ =>
    simp only [List.drop_succ_cons, List.drop_zero, List.take_succ_cons, List.take_zero, List.cons.injEq, and_true, List.length_cons, List.length_nil, true_and] at w
    obtain ⟨⟨_, rfl, _⟩, ⟨_, rfl, _⟩, ⟨_, rfl, _⟩, ⟨_, rfl, _⟩⟩ := w
    exact ⟨_, _, _, _, rfl⟩
theorem decR {h : Heap} (es : List Value) (hl : es.length = 12) (w : Fits h (.st 12 [(0, 1, .int .i64), (1, 1, .str), (2, 1, .str), (3, 1, .str), (4, 1, .str), (5, 1, .str), (6, 1, .str), (7, 2, .st 2 [(0, 1, .int .i64), (1, 1, .str)]), (9, 1, .int .i64), (10, 1, .int .i64), (11, 1, .bool)]) es) : ∃ x, Rc.cells x = es := by
  simp only [Fits, FitsL] at w
  obtain ⟨_, w⟩ := w
  match es, hl with
  | [x0, x1, x2, x3, x4, x5, x6, x7, x8, x9, x10, x11], _ =>
    simp only [List.drop_succ_cons, List.drop_zero, List.take_succ_cons, List.take_zero, List.cons.injEq, and_true, List.length_cons, List.length_nil, true_and] at w
    obtain ⟨⟨_, rfl, _⟩, ⟨_, rfl, _⟩, ⟨_, rfl, _⟩, ⟨_, rfl, _⟩, ⟨_, rfl, _⟩, ⟨_, rfl, _⟩, ⟨_, rfl, _⟩, ⟨⟨_, rfl, _⟩, ⟨_, rfl, _⟩⟩, ⟨_, rfl, _⟩, ⟨_, rfl, _⟩, ⟨_, rfl⟩⟩ := w
    exact ⟨⟨_, _, _, _, _, _, _, _, _, _, _, _⟩, rfl⟩
theorem decI {h : Heap} (es : List Value) (hl : es.length = 1) (hf : Fits h (.int .i64) es) : ∃ x, intC x = es := by
  unfold Fits at hf
  obtain ⟨n, rfl, _⟩ := hf
  exact ⟨n, rfl⟩
theorem callsH_of_pure {P : Program} {g : FuncId} {args : Array Value} {A : AH} {v : Value} (hv : valA P g args A = some v) (hc : callable P g = true) {h : Heap} (hs : Sat A h) : CallsH P g args h fun e h' => e = .returned v ∧ Grew h h' := by
  have := (valA_out hv).2 h hs
  unfold RunC at this
  rwa [if_pos hc] at this
theorem moves_walk (w : World) (ht : Lib.TabIs Tryd.prog w "internal/strconv.uint64pow10" .u64 Lib.pow10Tab) (a0 : Array Value) (w0 : Vm.Fits w.heap ((.st 10 [(0, 1, .str), (1, 1, .str), (2, 1, .str), (3, 1, .str), (4, 1, .str), (5, 2, .st 2 [(0, 1, .int .i64), (1, 1, .str)]), (7, 1, .int .i64), (8, 1, .int .i64), (9, 1, .int .i64)])) a0.toList) (z0 : Vm.FitsZ 140737488351232 ((.st 10 [(0, 1, .str), (1, 1, .str), (2, 1, .str), (3, 1, .str), (4, 1, .str), (5, 2, .st 2 [(0, 1, .int .i64), (1, 1, .str)]), (7, 1, .int .i64), (8, 1, .int .i64), (9, 1, .int .i64)])) a0.toList) (a1 : Array Value) (w1 : Vm.Fits w.heap ((.st 12 [(0, 1, .int .i64), (1, 1, .str), (2, 1, .str), (3, 1, .str), (4, 1, .str), (5, 1, .str), (6, 1, .str), (7, 2, .st 2 [(0, 1, .int .i64), (1, 1, .str)]), (9, 1, .int .i64), (10, 1, .int .i64), (11, 1, .bool)])) a1.toList) (z1 : Vm.FitsZ 140737488351232 ((.st 12 [(0, 1, .int .i64), (1, 1, .str), (2, 1, .str), (3, 1, .str), (4, 1, .str), (5, 1, .str), (6, 1, .str), (7, 2, .st 2 [(0, 1, .int .i64), (1, 1, .str)]), (9, 1, .int .i64), (10, 1, .int .i64), (11, 1, .bool)])) a1.toList) (a2 : Array Value) (w2 : Vm.Fits w.heap ((.st 4 [(0, 1, .int .i64), (1, 1, .int .i64), (2, 1, .int .i64), (3, 1, .int .i64)])) a2.toList) :
    CallsH Tryd.prog 4 #[.agg a0, .agg a1, .agg a2] w.heap fun e h' => e = .returned (.bool true) ∧ Grew w.heap h' := by
  obtain ⟨A, hA, hT⟩ := TabA.of ht
  obtain ⟨c, rfl, hc⟩ := fitsZC z0
  obtain ⟨r, rfl, hr⟩ := fitsZR z1
  obtain ⟨s, t, d, n, rfl⟩ := fitsX w2
  exact callsH_of_pure (movesLaw_v A hT c r hc hr s t d n) (by kernel_rfl) hA
theorem lists_walk (w : World) (ht : Lib.TabIs Tryd.prog w "internal/strconv.uint64pow10" .u64 Lib.pow10Tab) (a0 : Array Value) (w0 : Vm.Fits w.heap ((.st 10 [(0, 1, .str), (1, 1, .str), (2, 1, .str), (3, 1, .str), (4, 1, .str), (5, 2, .st 2 [(0, 1, .int .i64), (1, 1, .str)]), (7, 1, .int .i64), (8, 1, .int .i64), (9, 1, .int .i64)])) a0.toList) (z0 : Vm.FitsZ 140737488351232 ((.st 10 [(0, 1, .str), (1, 1, .str), (2, 1, .str), (3, 1, .str), (4, 1, .str), (5, 2, .st 2 [(0, 1, .int .i64), (1, 1, .str)]), (7, 1, .int .i64), (8, 1, .int .i64), (9, 1, .int .i64)])) a0.toList) (a1 : Array Value) (w1 : Vm.Fits w.heap ((.st 12 [(0, 1, .int .i64), (1, 1, .str), (2, 1, .str), (3, 1, .str), (4, 1, .str), (5, 1, .str), (6, 1, .str), (7, 2, .st 2 [(0, 1, .int .i64), (1, 1, .str)]), (9, 1, .int .i64), (10, 1, .int .i64), (11, 1, .bool)])) a1.toList) (z1 : Vm.FitsZ 140737488351232 ((.st 12 [(0, 1, .int .i64), (1, 1, .str), (2, 1, .str), (3, 1, .str), (4, 1, .str), (5, 1, .str), (6, 1, .str), (7, 2, .st 2 [(0, 1, .int .i64), (1, 1, .str)]), (9, 1, .int .i64), (10, 1, .int .i64), (11, 1, .bool)])) a1.toList) (a2 : Option Addr) (len2 cap2 : Nat) (w2 : Vm.Fits w.heap (.sl 1 (.int .i64)) [.slice a2 len2 cap2]) (d : Int) (wd : (Lit.int .i64 d).wf = true) :
    CallsH Tryd.prog 5 #[.agg a0, .agg a1, .slice a2 len2 cap2, .int .i64 d] w.heap fun e h' => e = .returned (.bool true) ∧ Grew w.heap h' := by
  obtain ⟨B, hB, hT⟩ := TabA.of ht
  obtain ⟨c, rfl, hc⟩ := fitsZC z0
  obtain ⟨r, rfl, hr⟩ := fitsZR z1
  obtain ⟨p, cap, L, e1, _, _, _, A, hA, hL⟩ := list_fits intC (v := .slice a2 len2 cap2) (by decide) decI w2 (by intro c hc; cases hc)
  cases e1
  exact callsH_of_pure (listsLaw_v (A ++ B) (hT.mono (sat_sub hA hB)) c r hc hr L _ _ (hL.mono (SubA.left _ _)) d) (by kernel_rfl) (hA.both hB)
theorem holder_walk (w : World) (ht : Lib.TabIs Tryd.prog w "internal/strconv.uint64pow10" .u64 Lib.pow10Tab) (a0 : Array Value) (w0 : Vm.Fits w.heap ((.st 10 [(0, 1, .str), (1, 1, .str), (2, 1, .str), (3, 1, .str), (4, 1, .str), (5, 2, .st 2 [(0, 1, .int .i64), (1, 1, .str)]), (7, 1, .int .i64), (8, 1, .int .i64), (9, 1, .int .i64)])) a0.toList) (z0 : Vm.FitsZ 140737488351232 ((.st 10 [(0, 1, .str), (1, 1, .str), (2, 1, .str), (3, 1, .str), (4, 1, .str), (5, 2, .st 2 [(0, 1, .int .i64), (1, 1, .str)]), (7, 1, .int .i64), (8, 1, .int .i64), (9, 1, .int .i64)])) a0.toList) (a1 : Array Value) (w1 : Vm.Fits w.heap ((.st 12 [(0, 1, .int .i64), (1, 1, .str), (2, 1, .str), (3, 1, .str), (4, 1, .str), (5, 1, .str), (6, 1, .str), (7, 2, .st 2 [(0, 1, .int .i64), (1, 1, .str)]), (9, 1, .int .i64), (10, 1, .int .i64), (11, 1, .bool)])) a1.toList) (z1 : Vm.FitsZ 140737488351232 ((.st 12 [(0, 1, .int .i64), (1, 1, .str), (2, 1, .str), (3, 1, .str), (4, 1, .str), (5, 1, .str), (6, 1, .str), (7, 2, .st 2 [(0, 1, .int .i64), (1, 1, .str)]), (9, 1, .int .i64), (10, 1, .int .i64), (11, 1, .bool)])) a1.toList) (a2 : Option Addr) (len2 cap2 : Nat) (w2 : Vm.Fits w.heap (.sl 1 (.int .i64)) [.slice a2 len2 cap2]) (d : Int) (wd : (Lit.int .i64 d).wf = true) :
    CallsH Tryd.prog 3 #[.agg a0, .agg a1, .slice a2 len2 cap2, .int .i64 d] w.heap fun e h' => e = .returned (.bool true) ∧ Grew w.heap h' := by
  obtain ⟨B, hB, hT⟩ := TabA.of ht
  obtain ⟨c, rfl, hc⟩ := fitsZC z0
  obtain ⟨r, rfl, hr⟩ := fitsZR z1
  obtain ⟨p, cap, L, e1, _, _, _, A, hA, hL⟩ := list_fits intC (v := .slice a2 len2 cap2) (by decide) decI w2 (by intro c hc; cases hc)
  cases e1
  exact callsH_of_pure (holderLaw_v (A ++ B) (hT.mono (sat_sub hA hB)) c r hc hr L _ _ (hL.mono (SubA.left _ _)) d) (by kernel_rfl) (hA.both hB)
theorem sums_walk (w : World) (ht : Lib.TabIs Tryd.prog w "internal/strconv.uint64pow10" .u64 Lib.pow10Tab) (a0 : Array Value) (w0 : Vm.Fits w.heap ((.st 10 [(0, 1, .str), (1, 1, .str), (2, 1, .str), (3, 1, .str), (4, 1, .str), (5, 2, .st 2 [(0, 1, .int .i64), (1, 1, .str)]), (7, 1, .int .i64), (8, 1, .int .i64), (9, 1, .int .i64)])) a0.toList) (a1 : Option Addr) (len1 cap1 : Nat) (w1 : Vm.Fits w.heap (.sl 12 (.st 12 [(0, 1, .int .i64), (1, 1, .str), (2, 1, .str), (3, 1, .str), (4, 1, .str), (5, 1, .str), (6, 1, .str), (7, 2, .st 2 [(0, 1, .int .i64), (1, 1, .str)]), (9, 1, .int .i64), (10, 1, .int .i64), (11, 1, .bool)])) [.slice a1 len1 cap1]) (a2 : Option Addr) (len2 cap2 : Nat) (w2 : Vm.Fits w.heap (.sl 12 (.st 12 [(0, 1, .int .i64), (1, 1, .str), (2, 1, .str), (3, 1, .str), (4, 1, .str), (5, 1, .str), (6, 1, .str), (7, 2, .st 2 [(0, 1, .int .i64), (1, 1, .str)]), (9, 1, .int .i64), (10, 1, .int .i64), (11, 1, .bool)])) [.slice a2 len2 cap2]) :
    CallsH Tryd.prog 6 #[.agg a0, .slice a1 len1 cap1, .slice a2 len2 cap2] w.heap fun e h' => e = .returned (.bool true) ∧ Grew w.heap h' := by
  obtain ⟨B, hB, hT⟩ := TabA.of ht
  obtain ⟨c, rfl⟩ := fitsC w0
  obtain ⟨p, cap, L, e1, _, _, _, A1, hA1, hL⟩ := list_fits Rc.cells (v := .slice a1 len1 cap1) (by decide) decR w1 (by intro c hc; cases hc)
  obtain ⟨q, capq, M, e2, _, _, _, A2, hA2, hM⟩ := list_fits Rc.cells (v := .slice a2 len2 cap2) (by decide) decR w2 (by intro c hc; cases hc)
  cases e1
  cases e2
  have h12 := hA1.both hA2
  exact callsH_of_pure (sumsLaw_v ((A1 ++ A2) ++ B) (hT.mono (sat_sub h12 hB)) c L M _ _ _ _ (hL.mono (SubA.trans (SubA.left _ _) (SubA.left _ _))) (hM.mono (SubA.trans (sat_sub hA1 hA2) (SubA.left _ _)))) (by kernel_rfl) (h12.both hB)
end Go.Proofs.YtejcnpllodgmlaaDoor
