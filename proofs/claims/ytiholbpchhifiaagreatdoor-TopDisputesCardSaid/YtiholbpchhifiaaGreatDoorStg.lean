/-
Disputes: the stages.
Conditions: none.
-/
import Derived.Test.YtiholbpchhifiaaGreatDoorNam
namespace Go.Proofs.YtiholbpchhifiaaGreatDoor
open Go.Vm
set_option linter.unusedSimpArgs false
set_option linter.unusedVariables false
set_option maxHeartbeats 1000000
set_option maxRecDepth 20000
theorem pbStg : type_of% (And.intro @slIndexByte_p (And.intro @indexByte_p (And.intro @indexRune_p (And.intro @containsRune_p (And.intro @classOf_p (And.intro @isWordByte_p (And.intro @wordAt_p (@isName_p)))))))) := And.intro @slIndexByte_p (And.intro @indexByte_p (And.intro @indexRune_p (And.intro @containsRune_p (And.intro @classOf_p (And.intro @isWordByte_p (And.intro @wordAt_p (@isName_p)))))))

def nextF (s e : Int) : Int × Int :=
  if s < 1 ∨ 6 < s ∨ e < 1 ∨ 7 < e then (0, 4)
  else if s = 1 then (if e = 1 then (2, 0) else if e = 4 ∨ e = 7 then (5, 0) else (0, 8))
  else if s = 2 then (if e = 2 then (3, 0) else if e = 4 ∨ e = 7 then (6, 0) else (0, 8))
  else if s = 3 then (if e = 3 then (4, 0) else if e = 4 ∨ e = 7 then (5, 0) else (0, 8))
  else if s = 4 then (if e = 5 then (5, 0) else if e = 6 then (6, 0) else (0, 8))
  else (0, 8)
def turnF (s : Int) : Int := if s = 1 ∨ s = 3 then 1 else if s = 2 then 2 else if s = 4 then 3 else 0
theorem dNext_h (s e : Int) (h : Heap) : CallsH Tryz.prog 26 #[.int .i64 s, .int .i64 e] h fun r h' => r = .returned (.tuple #[.int .i64 (nextF s e).1, .int .i64 (nextF s e).2]) ∧ h' = h := by
  refine callsH_of_den ⟨Tryz.prog, 26, Tryz.f26, 49, [0, 1, 4, 5, 6, 27], _⟩ (args := [_, _]) Tryz.func26 rfl Tryz.ntmps26 (by simp) ?_
  simp only [argE_nil, argE_cons, ↓vmD, vmV, vmStd, Nat.reduceMul, ↓reduceIte, Nat.reduceAdd, Nat.reduceSub, Nat.reduceEqDiff, Nat.reduceLT, Nat.reduceLeDiff, reduceCtorEq, Int.reduceToNat, Int.reduceLT, Int.reduceLE, Int.reduceEq, Int.reduceNeg, Int.reduceBEq, Int.reduceBNe, String.reduceEq, forall_const, tyS, pbStg]
  simp only [nextF]
  grind (splits := 30)
theorem dNext_p (s e : Int) (h : Heap) (Q : Ending → Heap → Prop) : CallsX Tryz.prog 26 #[.int .i64 s, .int .i64 e] h Q = Q (.returned (.tuple #[.int .i64 (nextF s e).1, .int .i64 (nextF s e).2])) (h) := CallsX.exact (by kernel_rfl) (dNext_h s e h)
theorem dNext_q (s e : Int) (h : Heap) (nt_ : Nat) (dst_ : Option Nat) (ρ_ : Env) (K_ : Env → Prop) : callQ Tryz.prog nt_ dst_ (.func (.func 26) #[] #[]) [.int .i64 s, .int .i64 e] ρ_ h K_ = putK nt_ dst_ (.tuple #[.int .i64 (nextF s e).1, .int .i64 (nextF s e).2]) ρ_ K_ := callQ_exact (by kernel_rfl) (by kernel_rfl) (dNext_h s e h)
theorem dNext_v (s e : Int) (A_ : AH) : valA Tryz.prog 26 #[.int .i64 s, .int .i64 e] A_ = some (.tuple #[.int .i64 (nextF s e).1, .int .i64 (nextF s e).2]) := pureA_e (by kernel_rfl) (by kernel_rfl) (fun h => dNext_h s e h)
end Go.Proofs.YtiholbpchhifiaaGreatDoor
