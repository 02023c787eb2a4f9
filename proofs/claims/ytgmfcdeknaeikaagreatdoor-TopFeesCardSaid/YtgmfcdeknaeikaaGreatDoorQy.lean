/-
Small things.
Conditions: none.
-/
import Derived.Test.YtgmfcdeknaeikaaGreatDoorVmAP
import Derived.Test.YtgmfcdeknaeikaaGreatDoorTy
set_option linter.unusedSimpArgs false
set_option linter.unusedVariables false
set_option linter.defProp false
namespace Go.Proofs.YtgmfcdeknaeikaaGreatDoor
open Go.Vm
set_option maxRecDepth 20000
def Aa:=An @Yb (An @Vc (An @uu (An @rx @ur)))
def AF:=An @Aa (An @uW (An @ut (An @uT (An @uV (An @SubA.skip @SubA.refl)))))
def AE:=An @Bl (An @uR (An @uS @uU))
end Go.Proofs.YtgmfcdeknaeikaaGreatDoor
