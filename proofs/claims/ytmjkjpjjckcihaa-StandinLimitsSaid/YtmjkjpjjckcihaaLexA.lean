/-
The lexer: classes of bytes, words, and the library's functions it calls.
Conditions: none.
-/
import Derived.Test.YtmjkjpjjckcihaaVmAE
import Derived.Test.YtmjkjpjjckcihaaTy
import Derived.Test.YtmjkjpjjckcihaaVmAppend
import Derived.Lib.Bytealg
import Derived.Lib.IndexLaws
namespace Go.Proofs.Ytmjkjpjjckcihaa
open Go.Vm
set_option linter.unusedSimpArgs false
set_option linter.unusedVariables false
set_option maxHeartbeats 1000000
set_option maxRecDepth 20000

theorem indexByteString_h (s : ByteArray) (c : Int) (h : Heap) (Q : Ending → Heap → Prop) (hQ : Q (.returned (.int .i64 (Lib.indexByte s.data.toList c.toNat.toUInt8))) h) :
    ExtW Try.prog 59 #[.string s, .int .u8 c] h Q := by
  refine ext_of (e := Extern.BytealgIndexByte.indexByte) Try.func59 (by kernel_rfl) (by kernel_rfl) (by kernel_rfl) (by kernel_rfl) (fun w => Lib.run_indexByteString ..) hQ
theorem slIndexByte_h (s : ByteArray) (c : Int) (h : Heap) : CallsH Try.prog 58 #[.string s, .int .u8 c] h fun r h' => r = .returned (.int .i64 (Lib.indexByte s.data.toList c.toNat.toUInt8)) ∧ h' = h := by
  refine callsH_of_den ⟨Try.prog, 58, Try.f58, 8, [0, 1, 4], _⟩ (args := [_, _]) Try.func58 rfl Try.ntmps58 (by simp) ?_
  simp only [argE_nil, argE_cons, ↓vmD, vmV, vmStd, Nat.reduceMul, ↓reduceIte, Nat.reduceAdd, Nat.reduceSub, Nat.reduceEqDiff, Nat.reduceLT, Nat.reduceLeDiff, reduceCtorEq, Int.reduceToNat, Int.reduceLT, Int.reduceLE, Int.reduceEq, Int.reduceNeg, Int.reduceBEq, Int.reduceBNe, String.reduceEq, forall_const, tyS]
  refine indexByteString_h s c h _ ?_
  simp only [argE_nil, argE_cons, ↓vmD, vmV, vmStd, Nat.reduceMul, ↓reduceIte, Nat.reduceAdd, Nat.reduceSub, Nat.reduceEqDiff, Nat.reduceLT, Nat.reduceLeDiff, reduceCtorEq, Int.reduceToNat, Int.reduceLT, Int.reduceLE, Int.reduceEq, Int.reduceNeg, Int.reduceBEq, Int.reduceBNe, String.reduceEq, forall_const, tyS]
theorem slIndexByte_p (s : ByteArray) (c : Int) (h : Heap) (Q : Ending → Heap → Prop) : CallsX Try.prog 58 #[.string s, .int .u8 c] h Q = Q (.returned (.int .i64 (Lib.indexByte s.data.toList c.toNat.toUInt8))) (h) := CallsX.exact (by kernel_rfl) (slIndexByte_h s c h)
theorem slIndexByte_q (s : ByteArray) (c : Int) (h : Heap) (nt_ : Nat) (dst_ : Option Nat) (ρ_ : Env) (K_ : Env → Prop) : callQ Try.prog nt_ dst_ (.func (.func 58) #[] #[]) [.string s, .int .u8 c] ρ_ h K_ = putK nt_ dst_ (.int .i64 (Lib.indexByte s.data.toList c.toNat.toUInt8)) ρ_ K_ := callQ_exact (by kernel_rfl) (by kernel_rfl) (slIndexByte_h s c h)
theorem slIndexByte_v (s : ByteArray) (c : Int) (A_ : AH) : valA Try.prog 58 #[.string s, .int .u8 c] A_ = some (.int .i64 (Lib.indexByte s.data.toList c.toNat.toUInt8)) := pureA_e (by kernel_rfl) (by kernel_rfl) (fun h => slIndexByte_h s c h)
theorem indexByte_h (s : ByteArray) (c : Int) (h : Heap) : CallsH Try.prog 54 #[.string s, .int .u8 c] h fun r h' => r = .returned (.int .i64 (Lib.indexByte s.data.toList c.toNat.toUInt8)) ∧ h' = h := by
  refine callsH_of_den ⟨Try.prog, 54, Try.f54, 8, [0, 1, 4], _⟩ (args := [_, _]) Try.func54 rfl Try.ntmps54 (by simp) ?_
  simp only [argE_nil, argE_cons, ↓vmD, vmV, vmStd, Nat.reduceMul, ↓reduceIte, Nat.reduceAdd, Nat.reduceSub, Nat.reduceEqDiff, Nat.reduceLT, Nat.reduceLeDiff, reduceCtorEq, Int.reduceToNat, Int.reduceLT, Int.reduceLE, Int.reduceEq, Int.reduceNeg, Int.reduceBEq, Int.reduceBNe, String.reduceEq, forall_const, tyS, slIndexByte_p]
theorem indexByte_p (s : ByteArray) (c : Int) (h : Heap) (Q : Ending → Heap → Prop) : CallsX Try.prog 54 #[.string s, .int .u8 c] h Q = Q (.returned (.int .i64 (Lib.indexByte s.data.toList c.toNat.toUInt8))) (h) := CallsX.exact (by kernel_rfl) (indexByte_h s c h)
theorem indexByte_q (s : ByteArray) (c : Int) (h : Heap) (nt_ : Nat) (dst_ : Option Nat) (ρ_ : Env) (K_ : Env → Prop) : callQ Try.prog nt_ dst_ (.func (.func 54) #[] #[]) [.string s, .int .u8 c] ρ_ h K_ = putK nt_ dst_ (.int .i64 (Lib.indexByte s.data.toList c.toNat.toUInt8)) ρ_ K_ := callQ_exact (by kernel_rfl) (by kernel_rfl) (indexByte_h s c h)
theorem indexByte_v (s : ByteArray) (c : Int) (A_ : AH) : valA Try.prog 54 #[.string s, .int .u8 c] A_ = some (.int .i64 (Lib.indexByte s.data.toList c.toNat.toUInt8)) := pureA_e (by kernel_rfl) (by kernel_rfl) (fun h => indexByte_h s c h)
theorem indexRune_h (s : ByteArray) (c : Int) (h0 : 0 ≤ c) (h1 : c < 128) (h : Heap) : CallsH Try.prog 53 #[.string s, .int .i32 c] h fun r h' => r = .returned (.int .i64 (Lib.indexByte s.data.toList c.toNat.toUInt8)) ∧ h' = h := by
  refine callsH_of_den ⟨Try.prog, 53, Try.f53, 187, [0, 1, 4, 5, 6, 7, 8, 9, 10, 11, 12, 13, 14, 15, 16, 175, 176], _⟩ (args := [_, _]) Try.func53 rfl Try.ntmps53 (by simp) ?_
  have h3 : IntKind.u8.wrap c = c := w_u8 (by omega) (by omega)
  simp only [argE_nil, argE_cons, ↓vmD, vmV, vmStd, Nat.reduceMul, ↓reduceIte, Nat.reduceAdd, Nat.reduceSub, Nat.reduceEqDiff, Nat.reduceLT, Nat.reduceLeDiff, reduceCtorEq, Int.reduceToNat, Int.reduceLT, Int.reduceLE, Int.reduceEq, Int.reduceNeg, Int.reduceBEq, Int.reduceBNe, String.reduceEq, forall_const, tyS, slIndexByte_p, indexByte_p, h0, h1, h3]
theorem indexRune_p (s : ByteArray) (c : Int) (h0 : 0 ≤ c) (h1 : c < 128) (h : Heap) (Q : Ending → Heap → Prop) : CallsX Try.prog 53 #[.string s, .int .i32 c] h Q = Q (.returned (.int .i64 (Lib.indexByte s.data.toList c.toNat.toUInt8))) (h) := CallsX.exact (by kernel_rfl) (indexRune_h s c h0 h1 h)
theorem indexRune_q (s : ByteArray) (c : Int) (h0 : 0 ≤ c) (h1 : c < 128) (h : Heap) (nt_ : Nat) (dst_ : Option Nat) (ρ_ : Env) (K_ : Env → Prop) : callQ Try.prog nt_ dst_ (.func (.func 53) #[] #[]) [.string s, .int .i32 c] ρ_ h K_ = putK nt_ dst_ (.int .i64 (Lib.indexByte s.data.toList c.toNat.toUInt8)) ρ_ K_ := callQ_exact (by kernel_rfl) (by kernel_rfl) (indexRune_h s c h0 h1 h)
theorem indexRune_v (s : ByteArray) (c : Int) (h0 : 0 ≤ c) (h1 : c < 128) (A_ : AH) : valA Try.prog 53 #[.string s, .int .i32 c] A_ = some (.int .i64 (Lib.indexByte s.data.toList c.toNat.toUInt8)) := pureA_e (by kernel_rfl) (by kernel_rfl) (fun h => indexRune_h s c h0 h1 h)
theorem containsRune_h (s : ByteArray) (c : Int) (h0 : 0 ≤ c) (h1 : c < 128) (h : Heap) : CallsH Try.prog 48 #[.string s, .int .i32 c] h fun r h' => r = .returned (.bool (decide (0 ≤ Lib.indexByte s.data.toList c.toNat.toUInt8))) ∧ h' = h := by
  refine callsH_of_den ⟨Try.prog, 48, Try.f48, 9, [0, 1, 4], _⟩ (args := [_, _]) Try.func48 rfl Try.ntmps48 (by simp) ?_
  simp only [argE_nil, argE_cons, ↓vmD, vmV, vmStd, Nat.reduceMul, ↓reduceIte, Nat.reduceAdd, Nat.reduceSub, Nat.reduceEqDiff, Nat.reduceLT, Nat.reduceLeDiff, reduceCtorEq, Int.reduceToNat, Int.reduceLT, Int.reduceLE, Int.reduceEq, Int.reduceNeg, Int.reduceBEq, Int.reduceBNe, String.reduceEq, forall_const, tyS, slIndexByte_p, indexByte_p, indexRune_p, h0, h1]
theorem containsRune_p (s : ByteArray) (c : Int) (h0 : 0 ≤ c) (h1 : c < 128) (h : Heap) (Q : Ending → Heap → Prop) : CallsX Try.prog 48 #[.string s, .int .i32 c] h Q = Q (.returned (.bool (decide (0 ≤ Lib.indexByte s.data.toList c.toNat.toUInt8)))) (h) := CallsX.exact (by kernel_rfl) (containsRune_h s c h0 h1 h)
theorem containsRune_q (s : ByteArray) (c : Int) (h0 : 0 ≤ c) (h1 : c < 128) (h : Heap) (nt_ : Nat) (dst_ : Option Nat) (ρ_ : Env) (K_ : Env → Prop) : callQ Try.prog nt_ dst_ (.func (.func 48) #[] #[]) [.string s, .int .i32 c] ρ_ h K_ = putK nt_ dst_ (.bool (decide (0 ≤ Lib.indexByte s.data.toList c.toNat.toUInt8))) ρ_ K_ := callQ_exact (by kernel_rfl) (by kernel_rfl) (containsRune_h s c h0 h1 h)
theorem containsRune_v (s : ByteArray) (c : Int) (h0 : 0 ≤ c) (h1 : c < 128) (A_ : AH) : valA Try.prog 48 #[.string s, .int .i32 c] A_ = some (.bool (decide (0 ≤ Lib.indexByte s.data.toList c.toNat.toUInt8))) := pureA_e (by kernel_rfl) (by kernel_rfl) (fun h => containsRune_h s c h0 h1 h)
theorem isPrefixOf_take : ∀ (p l : List UInt8), p.isPrefixOf l = (l.take p.length == p)
  | [], l => by simp
  | a :: p, [] => by simp [List.isPrefixOf]
  | a :: p, b :: l => by
    simp only [List.isPrefixOf, List.length_cons, List.take_succ_cons, isPrefixOf_take p l]
    rw [Bool.eq_iff_iff]
    simp only [Bool.and_eq_true, beq_iff_eq, List.cons.injEq]
    exact ⟨fun ⟨x, y⟩ => ⟨x.symm, y⟩, fun ⟨x, y⟩ => ⟨x.symm, y⟩⟩
theorem prefix_extract {s p : ByteArray} (h : p.size ≤ s.size) : ((s.extract 0 p.size).toList == p.toList) = p.toList.isPrefixOf s.toList := by
  rw [isPrefixOf_take, ByteArray.toList_eq, ByteArray.toList_eq, ByteArray.toList_eq]
  have : (s.extract 0 p.size).data.toList = s.data.toList.take p.data.toList.length := by
    rw [ByteArray.data_extract]
    simp
  rw [this]
theorem prefix_long {s p : ByteArray} (h : s.size < p.size) : p.toList.isPrefixOf s.toList = false := by
  rw [isPrefixOf_take, ByteArray.toList_eq, ByteArray.toList_eq]
  rw [beq_eq_false_iff_ne]
  intro e
  have := congrArg List.length e
  simp at this
  omega
end Go.Proofs.Ytmjkjpjjckcihaa
