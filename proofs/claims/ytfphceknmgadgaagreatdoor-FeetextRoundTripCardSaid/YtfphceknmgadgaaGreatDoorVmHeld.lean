/-
What a guard asks; operations that do not look at the heap.
Conditions: none. Generic: it speaks of no program.
-/
import Derived.OrdersHeld
import Derived.Test.YtfphceknmgadgaaGreatDoorVmQEq
set_option linter.unusedSimpArgs false
set_option linter.unusedVariables false
namespace Go.Vm
def Ls(P:Program):Op→Bool
 | .load .. =>false
 | .call _=>false
 |op=>KZ P op
def mT(want:Bool)(v:Value)(A B:Prop):Prop:=match v with| .bool b=>Lo (b==want) A B|_=>B
@[congr] theorem ifU_congr {want:Bool} {v v':Value} {A B:Prop} (h:v=v'):mT want v A B=mT want v' A B:=by rw[h]
theorem LK(want b:Bool)(A B:Prop):mT want (.bool b) A B=Lo (b==want) A B:=rfl
theorem JN(want:Bool)(A B:Prop):mT want undef A B=B:=rfl
end Go.Vm
