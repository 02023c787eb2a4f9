/-
Maps with string keys: looking up, setting and deleting.
Conditions: none. Generic: it speaks of no program.
-/
import Derived.MapKept
import Derived.WideMake
import Derived.Test.YtfphceknmgadgaaDoorVmAppend
set_option linter.unusedSimpArgs false
set_option linter.unusedVariables false
namespace Go.Vm
abbrev SMap := List (ByteArray × Value)
def MapIsL (es : List MapEntry) (m : SMap) : Prop := es.map (fun e => (e.key, e.val)) = m.map fun p => (Value.string p.1, p.2)
def MapIs (es : Array MapEntry) (m : SMap) : Prop := MapIsL es.toList m
section
variable {P : Program} {t kt et : TypeId} {r cl : Nat} {es : Array MapEntry} {m : SMap} {s : ByteArray} {h : Heap} {K : Value → Heap → Prop}
end
theorem MapIs.nil : MapIs #[] [] := rfl
end Go.Vm
