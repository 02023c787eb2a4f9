/-
Maps with string keys: looking up, setting and deleting.
Conditions: none. Generic: it speaks of no program.
-/
import Derived.MapKept
import Derived.WideMake
import Derived.Test.YtfphceknmgadgaaGreatDoorVmAppend
set_option linter.unusedSimpArgs false
set_option linter.unusedVariables false
namespace Go.Vm
abbrev fl:=List (ByteArray×Value)
def my(es:List MapEntry)(m:fl):Prop:=es.map (fun e=>(e.key,e.val))=m.map fun p=>(Value.string p.1,p.2)
def iX(es:Array MapEntry)(m:fl):Prop:=my es.toList m
section
variable {P:Program} {t kt et:TypeId} {r cl:Nat} {es:Array MapEntry} {m:fl} {s:ByteArray} {h:AY} {K:Value→AY→Prop}
end
theorem iX.nil:iX #[] []:=rfl
end Go.Vm
