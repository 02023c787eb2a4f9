/-
What a guard asks; operations that do not look at the heap.
Conditions: none. Generic: it speaks of no program.
-/
import Derived.OrdersHeld
import Derived.Test.YtfphceknmgadgaaDoorVmQEq
set_option linter.unusedSimpArgs false
set_option linter.unusedVariables false
namespace Go.Vm
def freeOp (P : Program) : Op → Bool
  | .load .. => false
  | .call _ => false
  | op => quietOp P op
def ifU (want : Bool) (v : Value) (A B : Prop) : Prop := match v with | .bool b => ifB (b == want) A B | _ => B
@[congr] theorem ifU_congr {want : Bool} {v v' : Value} {A B : Prop} (h : v = v') : ifU want v A B = ifU want v' A B := by rw [h]
theorem ifU_bool (want b : Bool) (A B : Prop) : ifU want (.bool b) A B = ifB (b == want) A B := rfl
theorem ifU_undef (want : Bool) (A B : Prop) : ifU want undef A B = B := rfl
end Go.Vm
