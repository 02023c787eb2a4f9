/-
Small things.
Conditions: none.
-/
import Derived.Test.YtfphceknmgadgaaGreatDoorVmAE
import Derived.Test.YtfphceknmgadgaaGreatDoorTy
import Derived.Test.YtfphceknmgadgaaGreatDoorVmAppend
import Derived.Test.YtfphceknmgadgaaGreatDoorVmAP
set_option linter.unusedSimpArgs false
set_option linter.unusedVariables false
namespace Go.Proofs.YtfphceknmgadgaaGreatDoor
open Go.Vm
set_option maxRecDepth 20000
theorem BE:type_of% (An @QS (An @O6 (An @rP (An @iC @rV)))):=⟨@QS,@O6,@rP,@iC,@rV⟩
theorem AX:type_of% (An @BE (An @qV (An @rR (An @pJ (An @oU (An @SubA.skip @SubA.refl)))))):=⟨@BE,@qV,@rR,@pJ,@oU,@SubA.skip,@SubA.refl⟩
theorem AW:type_of% (An @Cl (An @pw (An @pH @pY))):=⟨@Cl,@pw,@pH,@pY⟩
end Go.Proofs.YtfphceknmgadgaaGreatDoor
