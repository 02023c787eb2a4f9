/-
The rules of the evaluator in one bundle.
Conditions: none.
-/
import Derived.Test.YtfphceknmgadgaaDoorVmAE
import Derived.Test.YtfphceknmgadgaaDoorTy
import Derived.Test.YtfphceknmgadgaaDoorVmAppend
import Derived.Test.YtfphceknmgadgaaDoorVmAP
set_option linter.unusedSimpArgs false
set_option linter.unusedVariables false
namespace Go.Proofs.YtfphceknmgadgaaDoor
open Go.Vm
set_option maxRecDepth 20000
theorem evO : type_of% (An @argE_nil (An @argE_cons (An @vmV (An @vmStd @tyS)))) := ⟨@argE_nil, @argE_cons, @vmV, @vmStd, @tyS⟩
theorem evN : type_of% (An @evO (An @vmVA (An @vmR (An @vmRA (An @vmSV (An @SubA.skip @SubA.refl)))))) := ⟨@evO, @vmVA, @vmR, @vmRA, @vmSV, @SubA.skip, @SubA.refl⟩
theorem evP : type_of% (An @vmD (An @vmDA (An @vmQA @vmSA))) := ⟨@vmD, @vmDA, @vmQA, @vmSA⟩
end Go.Proofs.YtfphceknmgadgaaDoor
