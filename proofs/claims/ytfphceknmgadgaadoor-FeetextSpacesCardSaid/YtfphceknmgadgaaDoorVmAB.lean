/-
Builders of texts over known blocks: unsafe.String, unsafe.SliceData, the way of a pointer through unsafe.Pointer, bytes read as a text.
Conditions: none. Generic: it speaks of no program.
-/
import Derived.Test.YtfphceknmgadgaaDoorVmAR
import Derived.Lib.UnsafeStr
import Derived.Lib.Builder
import Derived.Laws.BytesArg
set_option linter.unusedSimpArgs false
set_option linter.unusedVariables false
namespace Go.Vm
section
variable (P : Program) (imp : Imp) (nt : Nat) (ν : Nu) (n : Nat) (ρ : Env) (A : AH) (K : Nu → Nat → Env → AH → Prop) (K1 : Nu → Nat → Value → AH → Prop)
variable (dst : Option Nat) (ty : TypeId) (pos : String) (aft : Array Edge) (gd : Option (Nat × Bool))
end
end Go.Vm
