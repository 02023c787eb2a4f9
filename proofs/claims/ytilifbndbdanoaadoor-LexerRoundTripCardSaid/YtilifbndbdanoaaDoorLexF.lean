/-
The lexer: the reference's lexemes; scanning.
Conditions: none.
-/
import Derived.Test.YtilifbndbdanoaaDoorLexE
namespace Go.Proofs.YtilifbndbdanoaaDoor
open Go.Vm
set_option linter.unusedSimpArgs false
set_option linter.unusedVariables false
set_option maxHeartbeats 1000000
set_option maxRecDepth 20000

theorem letter_pre (c : UInt8) (l : List UInt8) (h : pre2 (c :: l) = true) : letterB c.toNat = false ∧ digitB c.toNat = false ∧ (c.toNat = 34) = False := by
  simp only [pre2, Bool.or_eq_true] at h
  rcases h with h | h <;> have := (isPre2 _ _ _ _ h).1 <;> subst this <;> decide
end Go.Proofs.YtilifbndbdanoaaDoor
