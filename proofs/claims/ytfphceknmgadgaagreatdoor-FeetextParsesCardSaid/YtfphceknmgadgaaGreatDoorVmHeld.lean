/-
What a guard asks; operations that do not look at the heap.
Conditions: none. Generic: it speaks of no program.
-/
import Derived.OrdersHeld
import Derived.Test.YtfphceknmgadgaaGreatDoorVmQEq
set_option linter.unusedSimpArgs false
set_option linter.unusedVariables false
namespace Go.Vm
def J8(P:Program):Op→Bool
 | .load .. =>false
 | .call _=>false
 |op=>Hx P op
def eV(want:Bool)(v:Value)(A B:Prop):Prop:=match v with| .bool b=>Jx (b==want) A B|_=>B
@[congr] theorem ifU_congr {want:Bool} {v v':Value} {A B:Prop} (h:v=v'):eV want v A B=eV want v' A B:=by rw[h]
theorem JV(want b:Bool)(A B:Prop):eV want (.bool b) A B=Jx (b==want) A B:=rfl
theorem Gr(want:Bool)(A B:Prop):eV want undef A B=B:=rfl
end Go.Vm
