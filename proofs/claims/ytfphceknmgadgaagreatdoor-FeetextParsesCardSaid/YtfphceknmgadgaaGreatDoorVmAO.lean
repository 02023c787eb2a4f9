/-
Append at a slice that begins within its row.
Conditions: none. Generic: it speaks of no program.
-/
import Derived.Test.YtfphceknmgadgaaGreatDoorVmAM
set_option linter.unusedSimpArgs false
set_option linter.unusedVariables false
namespace Go.Vm
theorem TT{o:Option Obj}{i N n k:Nat}{xs:List Value}(h:D0 o i N=some xs.toArray)(hk:k+n≤N):D0 o (i+k) n=some ((xs.drop k).take n).toArray:=by
 obtain⟨cs,e,fr,rfl⟩:=Ek h
 unfold D0 at h⊢
 simp only at h⊢
 split at h
 ·rename_i hle
  rw[if_pos (by omega)]
  congr 1
  apply Array.ext'
  have h1:=congrArg Array.toList (Option.some.inj h)
  simp only[Array.toList_extract,List.extract_eq_take_drop]at h1⊢
  rw[←h1,List.drop_take,List.take_take,List.drop_drop]
  congr 1
  omega
 ·cases h
end Go.Vm
