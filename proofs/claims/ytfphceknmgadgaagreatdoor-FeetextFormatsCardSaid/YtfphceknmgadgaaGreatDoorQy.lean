/-
Small things.
Conditions: none.
-/
import Derived.Test.YtfphceknmgadgaaGreatDoorVmAE
import Derived.Test.YtfphceknmgadgaaGreatDoorTy
import Derived.Test.YtfphceknmgadgaaGreatDoorVmAppend
import Derived.Test.YtfphceknmgadgaaGreatDoorVmAP
set_option linter.unusedSimpArgs false
set_option linter.unusedVariables false
namespace Go.Proofs.YtfphceknmgadgaaGreatDoor
open Go.Vm
set_option maxRecDepth 20000
theorem BM:type_of% (An @UP (An @Rp (An @vmV (An @qM @tyS)))):=⟨@UP,@Rp,@vmV,@qM,@tyS⟩
theorem Af:type_of% (An @BM (An @vmVA (An @vmR (An @vmRA (An @vmSV (An @SubA.skip @SubA.refl)))))):=⟨@BM,@vmVA,@vmR,@vmRA,@vmSV,@SubA.skip,@SubA.refl⟩
theorem Ae:type_of% (An @C9 (An @vmDA (An @vmQA @vmSA))):=⟨@C9,@vmDA,@vmQA,@vmSA⟩
end Go.Proofs.YtfphceknmgadgaaGreatDoor
