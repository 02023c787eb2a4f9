/-
The lexer: classes of bytes, words and skipping.
Conditions: none.
-/
import Derived.Test.YtilifbndbdanoaaDoorLexA
import Derived.Laws.RangeAny
namespace Go.Proofs.YtilifbndbdanoaaDoor
open Go.Vm
set_option linter.unusedSimpArgs false
set_option linter.unusedVariables false
set_option maxHeartbeats 1000000
set_option maxRecDepth 20000

def blankB (c : Nat) : Bool := decide (c = 32) || decide (c = 9) || decide (c = 10)
def letterB (c : Nat) : Bool := (decide (97 ≤ c) && decide (c ≤ 122)) || (decide (65 ≤ c) && decide (c ≤ 90))
def digitB (c : Nat) : Bool := decide (48 ≤ c) && decide (c ≤ 57)
def wordB (c : Nat) : Bool := letterB c || digitB c || decide (c = 95)
def marks : List UInt8 := [40, 41, 123, 125, 44, 59, 58, 61, 60, 62, 43, 45, 42, 37, 46]
def markB (c : Nat) : Bool := decide (c ≤ 126) && decide (0 ≤ Lib.indexByte marks c.toUInt8)
def clsF (c : Nat) : Int :=
  if blankB c = true then 1 else if letterB c = true then 2 else if digitB c = true then 3 else if c = 95 then 4 else if c = 34 then 5 else if c = 35 then 6 else if markB c = true then 7 else 0
theorem classOf_h (c : Nat) (hc : c < 256) (h : Heap) : CallsH Tryd.prog 17 #[.int .i32 (c : Int)] h fun r h' => r = .returned (.int .i64 (clsF c)) ∧ h' = h := by
  refine callsH_of_den ⟨Tryd.prog, 17, Tryd.f17, 52, [0, 2], _⟩ (args := [_]) Tryd.func17 rfl Tryd.ntmps17 (by simp) ?_
  have e1 : (ByteArray.mk #[40, 41, 123, 125, 44, 59, 58, 61, 60, 62, 43, 45, 42, 37, 46]).data.toList = marks := rfl
  have e2 : (0 ≤ (c : Int)) = True := by simp
  have e4 : c.toUInt8 = Nat.toUInt8 c := rfl
  by_cases hm : (c : Int) ≤ 126
  · have e3 : ((c : Int) < 128) = True := by simp; omega
    simp only [argE_nil, argE_cons, ↓vmD, vmV, vmStd, Nat.reduceMul, ↓reduceIte, Nat.reduceAdd, Nat.reduceSub, Nat.reduceEqDiff, Nat.reduceLT, Nat.reduceLeDiff, reduceCtorEq, Int.reduceToNat, Int.reduceLT, Int.reduceLE, Int.reduceEq, Int.reduceNeg, Int.reduceBEq, Int.reduceBNe, String.reduceEq, forall_const, tyS, slIndexByte_p, indexByte_p, indexRune_p, containsRune_p, slHasPrefix_p, hasPrefix_p, e1, e2, e3, hm, Int.toNat_natCast]
    simp only [Ending.returned.injEq, Value.int.injEq, true_and]
    clear e1 e2 e3 e4 h
    revert c
    decide +kernel
  · simp only [argE_nil, argE_cons, ↓vmD, vmV, vmStd, Nat.reduceMul, ↓reduceIte, Nat.reduceAdd, Nat.reduceSub, Nat.reduceEqDiff, Nat.reduceLT, Nat.reduceLeDiff, reduceCtorEq, Int.reduceToNat, Int.reduceLT, Int.reduceLE, Int.reduceEq, Int.reduceNeg, Int.reduceBEq, Int.reduceBNe, String.reduceEq, forall_const, tyS, slIndexByte_p, indexByte_p, indexRune_p, containsRune_p, slHasPrefix_p, hasPrefix_p, e1, e2, hm]
    simp only [Ending.returned.injEq, Value.int.injEq, true_and]
    clear e1 e2 e4 h
    revert c
    decide +kernel
theorem classOf_p (c : Nat) (hc : c < 256) (h : Heap) (Q : Ending → Heap → Prop) : CallsX Tryd.prog 17 #[.int .i32 (c : Int)] h Q = Q (.returned (.int .i64 (clsF c))) (h) := CallsX.exact (by kernel_rfl) (classOf_h c hc h)
theorem classOf_q (c : Nat) (hc : c < 256) (h : Heap) (nt_ : Nat) (dst_ : Option Nat) (ρ_ : Env) (K_ : Env → Prop) : callQ Tryd.prog nt_ dst_ (.func (.func 17) #[] #[]) [.int .i32 (c : Int)] ρ_ h K_ = putK nt_ dst_ (.int .i64 (clsF c)) ρ_ K_ := callQ_exact (by kernel_rfl) (by kernel_rfl) (classOf_h c hc h)
theorem classOf_v (c : Nat) (hc : c < 256) (A_ : AH) : valA Tryd.prog 17 #[.int .i32 (c : Int)] A_ = some (.int .i64 (clsF c)) := pureA_e (by kernel_rfl) (by kernel_rfl) (fun h => classOf_h c hc h)
end Go.Proofs.YtilifbndbdanoaaDoor
