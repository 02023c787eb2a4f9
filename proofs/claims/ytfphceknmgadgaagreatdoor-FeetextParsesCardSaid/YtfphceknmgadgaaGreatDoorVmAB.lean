/-
Builders of texts over known blocks: bytes read as a text, the way of a pointer through one that has no type.
Conditions: none. Generic: it speaks of no program.
-/
import Derived.Test.YtfphceknmgadgaaGreatDoorVmAR
import Derived.Lib.UnsafeStr
import Derived.Lib.Builder
import Derived.Laws.BytesArg
set_option linter.unusedSimpArgs false
set_option linter.unusedVariables false
namespace Go.Vm
section
variable (P:Program) (imp:Imp) (nt:Nat) (ν:Nu) (n:Nat) (ρ:Ba) (A:AH) (K:Nu→Nat→Ba→AH→Prop) (K1:Nu→Nat→Value→AH→Prop)
variable (dst:Option Nat) (ty:TypeId) (pos:String) (aft:Array Edge) (gd:Option (Nat×Bool))
end
end Go.Vm
