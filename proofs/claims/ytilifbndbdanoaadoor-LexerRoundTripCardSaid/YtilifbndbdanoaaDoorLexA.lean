/-
The lexer: classes of bytes, words, and the library's functions it calls.
Conditions: none.
-/
import Derived.Test.YtilifbndbdanoaaDoorVmAE
import Derived.Test.YtilifbndbdanoaaDoorTy
import Derived.Test.YtilifbndbdanoaaDoorVmAppend
import Derived.Lib.Bytealg
import Derived.Lib.IndexLaws
namespace Go.Proofs.YtilifbndbdanoaaDoor
open Go.Vm
set_option linter.unusedSimpArgs false
set_option linter.unusedVariables false
set_option maxHeartbeats 1000000
set_option maxRecDepth 20000

theorem indexByteString_h (s : ByteArray) (c : Int) (h : Heap) (Q : Ending → Heap → Prop) (hQ : Q (.returned (.int .i64 (Lib.indexByte s.data.toList c.toNat.toUInt8))) h) :
    ExtW Tryd.prog 41 #[.string s, .int .u8 c] h Q := by
  refine ext_of (e := Extern.BytealgIndexByte.indexByte) Tryd.func41 (by kernel_rfl) (by kernel_rfl) (by kernel_rfl) (by kernel_rfl) (fun w => Lib.run_indexByteString ..) hQ
theorem slIndexByte_h (s : ByteArray) (c : Int) (h : Heap) : CallsH Tryd.prog 30 #[.string s, .int .u8 c] h fun r h' => r = .returned (.int .i64 (Lib.indexByte s.data.toList c.toNat.toUInt8)) ∧ h' = h := by
  refine callsH_of_den ⟨Tryd.prog, 30, Tryd.f30, 8, [0, 1, 4], _⟩ (args := [_, _]) Tryd.func30 rfl Tryd.ntmps30 (by simp) ?_
  simp only [argE_nil, argE_cons, ↓vmD, vmV, vmStd, Nat.reduceMul, ↓reduceIte, Nat.reduceAdd, Nat.reduceSub, Nat.reduceEqDiff, Nat.reduceLT, Nat.reduceLeDiff, reduceCtorEq, Int.reduceToNat, Int.reduceLT, Int.reduceLE, Int.reduceEq, Int.reduceNeg, Int.reduceBEq, Int.reduceBNe, String.reduceEq, forall_const, tyS]
  refine indexByteString_h s c h _ ?_
  simp only [argE_nil, argE_cons, ↓vmD, vmV, vmStd, Nat.reduceMul, ↓reduceIte, Nat.reduceAdd, Nat.reduceSub, Nat.reduceEqDiff, Nat.reduceLT, Nat.reduceLeDiff, reduceCtorEq, Int.reduceToNat, Int.reduceLT, Int.reduceLE, Int.reduceEq, Int.reduceNeg, Int.reduceBEq, Int.reduceBNe, String.reduceEq, forall_const, tyS]
theorem slIndexByte_p (s : ByteArray) (c : Int) (h : Heap) (Q : Ending → Heap → Prop) : CallsX Tryd.prog 30 #[.string s, .int .u8 c] h Q = Q (.returned (.int .i64 (Lib.indexByte s.data.toList c.toNat.toUInt8))) (h) := CallsX.exact (by kernel_rfl) (slIndexByte_h s c h)
theorem slIndexByte_q (s : ByteArray) (c : Int) (h : Heap) (nt_ : Nat) (dst_ : Option Nat) (ρ_ : Env) (K_ : Env → Prop) : callQ Tryd.prog nt_ dst_ (.func (.func 30) #[] #[]) [.string s, .int .u8 c] ρ_ h K_ = putK nt_ dst_ (.int .i64 (Lib.indexByte s.data.toList c.toNat.toUInt8)) ρ_ K_ := callQ_exact (by kernel_rfl) (by kernel_rfl) (slIndexByte_h s c h)
theorem slIndexByte_v (s : ByteArray) (c : Int) (A_ : AH) : valA Tryd.prog 30 #[.string s, .int .u8 c] A_ = some (.int .i64 (Lib.indexByte s.data.toList c.toNat.toUInt8)) := pureA_e (by kernel_rfl) (by kernel_rfl) (fun h => slIndexByte_h s c h)
theorem indexByte_h (s : ByteArray) (c : Int) (h : Heap) : CallsH Tryd.prog 18 #[.string s, .int .u8 c] h fun r h' => r = .returned (.int .i64 (Lib.indexByte s.data.toList c.toNat.toUInt8)) ∧ h' = h := by
  refine callsH_of_den ⟨Tryd.prog, 18, Tryd.f18, 8, [0, 1, 4], _⟩ (args := [_, _]) Tryd.func18 rfl Tryd.ntmps18 (by simp) ?_
  simp only [argE_nil, argE_cons, ↓vmD, vmV, vmStd, Nat.reduceMul, ↓reduceIte, Nat.reduceAdd, Nat.reduceSub, Nat.reduceEqDiff, Nat.reduceLT, Nat.reduceLeDiff, reduceCtorEq, Int.reduceToNat, Int.reduceLT, Int.reduceLE, Int.reduceEq, Int.reduceNeg, Int.reduceBEq, Int.reduceBNe, String.reduceEq, forall_const, tyS, slIndexByte_p]
theorem indexByte_p (s : ByteArray) (c : Int) (h : Heap) (Q : Ending → Heap → Prop) : CallsX Tryd.prog 18 #[.string s, .int .u8 c] h Q = Q (.returned (.int .i64 (Lib.indexByte s.data.toList c.toNat.toUInt8))) (h) := CallsX.exact (by kernel_rfl) (indexByte_h s c h)
theorem indexByte_q (s : ByteArray) (c : Int) (h : Heap) (nt_ : Nat) (dst_ : Option Nat) (ρ_ : Env) (K_ : Env → Prop) : callQ Tryd.prog nt_ dst_ (.func (.func 18) #[] #[]) [.string s, .int .u8 c] ρ_ h K_ = putK nt_ dst_ (.int .i64 (Lib.indexByte s.data.toList c.toNat.toUInt8)) ρ_ K_ := callQ_exact (by kernel_rfl) (by kernel_rfl) (indexByte_h s c h)
theorem indexByte_v (s : ByteArray) (c : Int) (A_ : AH) : valA Tryd.prog 18 #[.string s, .int .u8 c] A_ = some (.int .i64 (Lib.indexByte s.data.toList c.toNat.toUInt8)) := pureA_e (by kernel_rfl) (by kernel_rfl) (fun h => indexByte_h s c h)
theorem indexRune_h (s : ByteArray) (c : Int) (h0 : 0 ≤ c) (h1 : c < 128) (h : Heap) : CallsH Tryd.prog 40 #[.string s, .int .i32 c] h fun r h' => r = .returned (.int .i64 (Lib.indexByte s.data.toList c.toNat.toUInt8)) ∧ h' = h := by
  refine callsH_of_den ⟨Tryd.prog, 40, Tryd.f40, 187, [0, 1, 4, 5, 6, 7, 8, 9, 10, 11, 12, 13, 14, 15, 16, 175, 176], _⟩ (args := [_, _]) Tryd.func40 rfl Tryd.ntmps40 (by simp) ?_
  have h3 : IntKind.u8.wrap c = c := w_u8 (by omega) (by omega)
  simp only [argE_nil, argE_cons, ↓vmD, vmV, vmStd, Nat.reduceMul, ↓reduceIte, Nat.reduceAdd, Nat.reduceSub, Nat.reduceEqDiff, Nat.reduceLT, Nat.reduceLeDiff, reduceCtorEq, Int.reduceToNat, Int.reduceLT, Int.reduceLE, Int.reduceEq, Int.reduceNeg, Int.reduceBEq, Int.reduceBNe, String.reduceEq, forall_const, tyS, slIndexByte_p, indexByte_p, h0, h1, h3]
theorem indexRune_p (s : ByteArray) (c : Int) (h0 : 0 ≤ c) (h1 : c < 128) (h : Heap) (Q : Ending → Heap → Prop) : CallsX Tryd.prog 40 #[.string s, .int .i32 c] h Q = Q (.returned (.int .i64 (Lib.indexByte s.data.toList c.toNat.toUInt8))) (h) := CallsX.exact (by kernel_rfl) (indexRune_h s c h0 h1 h)
theorem indexRune_q (s : ByteArray) (c : Int) (h0 : 0 ≤ c) (h1 : c < 128) (h : Heap) (nt_ : Nat) (dst_ : Option Nat) (ρ_ : Env) (K_ : Env → Prop) : callQ Tryd.prog nt_ dst_ (.func (.func 40) #[] #[]) [.string s, .int .i32 c] ρ_ h K_ = putK nt_ dst_ (.int .i64 (Lib.indexByte s.data.toList c.toNat.toUInt8)) ρ_ K_ := callQ_exact (by kernel_rfl) (by kernel_rfl) (indexRune_h s c h0 h1 h)
theorem indexRune_v (s : ByteArray) (c : Int) (h0 : 0 ≤ c) (h1 : c < 128) (A_ : AH) : valA Tryd.prog 40 #[.string s, .int .i32 c] A_ = some (.int .i64 (Lib.indexByte s.data.toList c.toNat.toUInt8)) := pureA_e (by kernel_rfl) (by kernel_rfl) (fun h => indexRune_h s c h0 h1 h)
theorem containsRune_h (s : ByteArray) (c : Int) (h0 : 0 ≤ c) (h1 : c < 128) (h : Heap) : CallsH Tryd.prog 29 #[.string s, .int .i32 c] h fun r h' => r = .returned (.bool (decide (0 ≤ Lib.indexByte s.data.toList c.toNat.toUInt8))) ∧ h' = h := by
  refine callsH_of_den ⟨Tryd.prog, 29, Tryd.f29, 9, [0, 1, 4], _⟩ (args := [_, _]) Tryd.func29 rfl Tryd.ntmps29 (by simp) ?_
  simp only [argE_nil, argE_cons, ↓vmD, vmV, vmStd, Nat.reduceMul, ↓reduceIte, Nat.reduceAdd, Nat.reduceSub, Nat.reduceEqDiff, Nat.reduceLT, Nat.reduceLeDiff, reduceCtorEq, Int.reduceToNat, Int.reduceLT, Int.reduceLE, Int.reduceEq, Int.reduceNeg, Int.reduceBEq, Int.reduceBNe, String.reduceEq, forall_const, tyS, slIndexByte_p, indexByte_p, indexRune_p, h0, h1]
theorem containsRune_p (s : ByteArray) (c : Int) (h0 : 0 ≤ c) (h1 : c < 128) (h : Heap) (Q : Ending → Heap → Prop) : CallsX Tryd.prog 29 #[.string s, .int .i32 c] h Q = Q (.returned (.bool (decide (0 ≤ Lib.indexByte s.data.toList c.toNat.toUInt8)))) (h) := CallsX.exact (by kernel_rfl) (containsRune_h s c h0 h1 h)
theorem containsRune_q (s : ByteArray) (c : Int) (h0 : 0 ≤ c) (h1 : c < 128) (h : Heap) (nt_ : Nat) (dst_ : Option Nat) (ρ_ : Env) (K_ : Env → Prop) : callQ Tryd.prog nt_ dst_ (.func (.func 29) #[] #[]) [.string s, .int .i32 c] ρ_ h K_ = putK nt_ dst_ (.bool (decide (0 ≤ Lib.indexByte s.data.toList c.toNat.toUInt8))) ρ_ K_ := callQ_exact (by kernel_rfl) (by kernel_rfl) (containsRune_h s c h0 h1 h)
theorem containsRune_v (s : ByteArray) (c : Int) (h0 : 0 ≤ c) (h1 : c < 128) (A_ : AH) : valA Tryd.prog 29 #[.string s, .int .i32 c] A_ = some (.bool (decide (0 ≤ Lib.indexByte s.data.toList c.toNat.toUInt8))) := pureA_e (by kernel_rfl) (by kernel_rfl) (fun h => containsRune_h s c h0 h1 h)
theorem isPrefixOf_take : ∀ (p l : List UInt8), p.isPrefixOf l = (l.take p.length == p)
  | [], l => by simp
  | a :: p, [] => by simp [List.isPrefixOf]
  | a :: p, b :: l => by
    simp only [List.isPrefixOf, List.length_cons, List.take_succ_cons, isPrefixOf_take p l]
    rw [Bool.eq_iff_iff]
    simp only [Bool.and_eq_true, beq_iff_eq, List.cons.injEq]
    exact ⟨fun ⟨x, y⟩ => ⟨x.symm, y⟩, fun ⟨x, y⟩ => ⟨x.symm, y⟩⟩
theorem prefix_extract {s p : ByteArray} (h : p.size ≤ s.size) : ((s.extract 0 p.size).toList == p.toList) = p.toList.isPrefixOf s.toList := by
  rw [isPrefixOf_take, ByteArray.toList_eq, ByteArray.toList_eq, ByteArray.toList_eq]
  have : (s.extract 0 p.size).data.toList = s.data.toList.take p.data.toList.length := by
    rw [ByteArray.data_extract]
    simp
  rw [this]
theorem prefix_long {s p : ByteArray} (h : s.size < p.size) : p.toList.isPrefixOf s.toList = false := by
  rw [isPrefixOf_take, ByteArray.toList_eq, ByteArray.toList_eq]
  rw [beq_eq_false_iff_ne]
  intro e
  have := congrArg List.length e
  simp at this
  omega
theorem slHasPrefix_h (s p : ByteArray) (h : Heap) : CallsH Tryd.prog 31 #[.string s, .string p] h fun r h' => r = .returned (.bool (p.toList.isPrefixOf s.toList)) ∧ h' = h := by
  refine callsH_of_den ⟨Tryd.prog, 31, Tryd.f31, 18, [0, 1, 4], _⟩ (args := [_, _]) Tryd.func31 rfl Tryd.ntmps31 (by simp) ?_
  by_cases hle : ((p.size : Int) ≤ (s.size : Int))
  · simp only [argE_nil, argE_cons, ↓vmD, vmV, vmStd, Nat.reduceMul, ↓reduceIte, Nat.reduceAdd, Nat.reduceSub, Nat.reduceEqDiff, Nat.reduceLT, Nat.reduceLeDiff, reduceCtorEq, Int.reduceToNat, Int.reduceLT, Int.reduceLE, Int.reduceEq, Int.reduceNeg, Int.reduceBEq, Int.reduceBNe, String.reduceEq, forall_const, tyS, slIndexByte_p, indexByte_p, indexRune_p, containsRune_p, hle]
    rw [prefix_extract (by omega)]
  · simp only [argE_nil, argE_cons, ↓vmD, vmV, vmStd, Nat.reduceMul, ↓reduceIte, Nat.reduceAdd, Nat.reduceSub, Nat.reduceEqDiff, Nat.reduceLT, Nat.reduceLeDiff, reduceCtorEq, Int.reduceToNat, Int.reduceLT, Int.reduceLE, Int.reduceEq, Int.reduceNeg, Int.reduceBEq, Int.reduceBNe, String.reduceEq, forall_const, tyS, slIndexByte_p, indexByte_p, indexRune_p, containsRune_p, hle]
    rw [prefix_long (by omega)]
theorem slHasPrefix_p (s p : ByteArray) (h : Heap) (Q : Ending → Heap → Prop) : CallsX Tryd.prog 31 #[.string s, .string p] h Q = Q (.returned (.bool (p.toList.isPrefixOf s.toList))) (h) := CallsX.exact (by kernel_rfl) (slHasPrefix_h s p h)
theorem slHasPrefix_q (s p : ByteArray) (h : Heap) (nt_ : Nat) (dst_ : Option Nat) (ρ_ : Env) (K_ : Env → Prop) : callQ Tryd.prog nt_ dst_ (.func (.func 31) #[] #[]) [.string s, .string p] ρ_ h K_ = putK nt_ dst_ (.bool (p.toList.isPrefixOf s.toList)) ρ_ K_ := callQ_exact (by kernel_rfl) (by kernel_rfl) (slHasPrefix_h s p h)
theorem slHasPrefix_v (s p : ByteArray) (A_ : AH) : valA Tryd.prog 31 #[.string s, .string p] A_ = some (.bool (p.toList.isPrefixOf s.toList)) := pureA_e (by kernel_rfl) (by kernel_rfl) (fun h => slHasPrefix_h s p h)
theorem hasPrefix_h (s p : ByteArray) (h : Heap) : CallsH Tryd.prog 19 #[.string s, .string p] h fun r h' => r = .returned (.bool (p.toList.isPrefixOf s.toList)) ∧ h' = h := by
  refine callsH_of_den ⟨Tryd.prog, 19, Tryd.f19, 8, [0, 1, 4], _⟩ (args := [_, _]) Tryd.func19 rfl Tryd.ntmps19 (by simp) ?_
  simp only [argE_nil, argE_cons, ↓vmD, vmV, vmStd, Nat.reduceMul, ↓reduceIte, Nat.reduceAdd, Nat.reduceSub, Nat.reduceEqDiff, Nat.reduceLT, Nat.reduceLeDiff, reduceCtorEq, Int.reduceToNat, Int.reduceLT, Int.reduceLE, Int.reduceEq, Int.reduceNeg, Int.reduceBEq, Int.reduceBNe, String.reduceEq, forall_const, tyS, slIndexByte_p, indexByte_p, indexRune_p, containsRune_p, slHasPrefix_p]
theorem hasPrefix_p (s p : ByteArray) (h : Heap) (Q : Ending → Heap → Prop) : CallsX Tryd.prog 19 #[.string s, .string p] h Q = Q (.returned (.bool (p.toList.isPrefixOf s.toList))) (h) := CallsX.exact (by kernel_rfl) (hasPrefix_h s p h)
theorem hasPrefix_q (s p : ByteArray) (h : Heap) (nt_ : Nat) (dst_ : Option Nat) (ρ_ : Env) (K_ : Env → Prop) : callQ Tryd.prog nt_ dst_ (.func (.func 19) #[] #[]) [.string s, .string p] ρ_ h K_ = putK nt_ dst_ (.bool (p.toList.isPrefixOf s.toList)) ρ_ K_ := callQ_exact (by kernel_rfl) (by kernel_rfl) (hasPrefix_h s p h)
theorem hasPrefix_v (s p : ByteArray) (A_ : AH) : valA Tryd.prog 19 #[.string s, .string p] A_ = some (.bool (p.toList.isPrefixOf s.toList)) := pureA_e (by kernel_rfl) (by kernel_rfl) (fun h => hasPrefix_h s p h)
end Go.Proofs.YtilifbndbdanoaaDoor
