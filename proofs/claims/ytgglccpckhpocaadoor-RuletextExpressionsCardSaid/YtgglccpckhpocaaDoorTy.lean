/-
Closed facts on the types and functions of this translation.
Conditions: none.
-/
import Derived.Test.YtgglccpckhpocaaDoorProg
import Derived.Test.YtgglccpckhpocaaDoorVmEq
import Derived.KernelRfl
set_option linter.unusedSimpArgs false
set_option linter.unusedVariables false
namespace Go.Proofs.YtgglccpckhpocaaDoor
open Go.Vm
set_option maxRecDepth 100000
theorem shp2 : shp Tryd.prog 2 = some (false, 1) := by kernel_rfl
theorem zro2 : zro Tryd.prog 2 = some (.int .i64 0) := by kernel_rfl
theorem shp3 : shp Tryd.prog 3 = some (false, 1) := by kernel_rfl
theorem zro3 : zro Tryd.prog 3 = some (.int .i64 0) := by kernel_rfl
theorem shp4 : shp Tryd.prog 4 = some (false, 1) := by kernel_rfl
theorem zro4 : zro Tryd.prog 4 = some (.bool false) := by kernel_rfl
theorem shp5 : shp Tryd.prog 5 = some (false, 1) := by kernel_rfl
theorem zro5 : zro Tryd.prog 5 = some (.int .u8 0) := by kernel_rfl
theorem shp6 : shp Tryd.prog 6 = some (false, 1) := by kernel_rfl
theorem zro6 : zro Tryd.prog 6 = some (.int .u8 0) := by kernel_rfl
theorem shp7 : shp Tryd.prog 7 = some (true, 4) := by kernel_rfl
theorem fld7n0 : fld Tryd.prog 7 0 = some (0, false, 1) := by kernel_rfl
theorem fld7n1 : fld Tryd.prog 7 1 = some (1, false, 1) := by kernel_rfl
theorem fld7n2 : fld Tryd.prog 7 2 = some (2, false, 1) := by kernel_rfl
theorem fld7n3 : fld Tryd.prog 7 3 = some (3, false, 1) := by kernel_rfl
theorem bok7 : bldOk Tryd.prog 7 = true := by kernel_rfl
theorem zro7 : zro Tryd.prog 7 = some (.agg #[.int .i64 0, .int .i64 0, .bool false, .int .u8 0]) := by kernel_rfl
theorem shp8 : shp Tryd.prog 8 = some (true, 4) := by kernel_rfl
theorem fld8n0 : fld Tryd.prog 8 0 = some (0, false, 1) := by kernel_rfl
theorem fld8n1 : fld Tryd.prog 8 1 = some (1, false, 1) := by kernel_rfl
theorem fld8n2 : fld Tryd.prog 8 2 = some (2, false, 1) := by kernel_rfl
theorem fld8n3 : fld Tryd.prog 8 3 = some (3, false, 1) := by kernel_rfl
theorem bok8 : bldOk Tryd.prog 8 = true := by kernel_rfl
theorem zro8 : zro Tryd.prog 8 = some (.agg #[.int .i64 0, .int .i64 0, .bool false, .int .u8 0]) := by kernel_rfl
theorem shp9 : shp Tryd.prog 9 = some (false, 1) := by kernel_rfl
theorem zro9 : zro Tryd.prog 9 = some (.string ⟨#[]⟩) := by kernel_rfl
theorem shp10 : shp Tryd.prog 10 = some (false, 1) := by kernel_rfl
theorem zro10 : zro Tryd.prog 10 = some (.string ⟨#[]⟩) := by kernel_rfl
theorem shp11 : shp Tryd.prog 11 = some (false, 1) := by kernel_rfl
theorem zro11 : zro Tryd.prog 11 = some (.string ⟨#[]⟩) := by kernel_rfl
theorem shp12 : shp Tryd.prog 12 = some (false, 1) := by kernel_rfl
theorem zro12 : zro Tryd.prog 12 = some (.int .u64 0) := by kernel_rfl
theorem shp13 : shp Tryd.prog 13 = some (true, 2) := by kernel_rfl
theorem fld13n0 : fld Tryd.prog 13 0 = some (0, false, 1) := by kernel_rfl
theorem fld13n1 : fld Tryd.prog 13 1 = some (1, false, 1) := by kernel_rfl
theorem bok13 : bldOk Tryd.prog 13 = true := by kernel_rfl
theorem zro13 : zro Tryd.prog 13 = some (.agg #[.string ⟨#[]⟩, .int .u64 0]) := by kernel_rfl
theorem shp14 : shp Tryd.prog 14 = some (true, 2) := by kernel_rfl
theorem fld14n0 : fld Tryd.prog 14 0 = some (0, false, 1) := by kernel_rfl
theorem fld14n1 : fld Tryd.prog 14 1 = some (1, false, 1) := by kernel_rfl
theorem bok14 : bldOk Tryd.prog 14 = true := by kernel_rfl
theorem zro14 : zro Tryd.prog 14 = some (.agg #[.string ⟨#[]⟩, .int .u64 0]) := by kernel_rfl
theorem shp15 : shp Tryd.prog 15 = some (false, 1) := by kernel_rfl
theorem zro15 : zro Tryd.prog 15 = some (.pointer none) := by kernel_rfl
theorem shp16 : shp Tryd.prog 16 = some (false, 1) := by kernel_rfl
theorem zro16 : zro Tryd.prog 16 = some (.pointer none) := by kernel_rfl
theorem shp17 : shp Tryd.prog 17 = some (false, 1) := by kernel_rfl
theorem zro17 : zro Tryd.prog 17 = some (.pointer none) := by kernel_rfl
theorem shp18 : shp Tryd.prog 18 = some (true, 1) := by kernel_rfl
theorem fld18n0 : fld Tryd.prog 18 0 = some (0, false, 1) := by kernel_rfl
theorem bok18 : bldOk Tryd.prog 18 = true := by kernel_rfl
theorem zro18 : zro Tryd.prog 18 = some (.agg #[.pointer none]) := by kernel_rfl
theorem shp19 : shp Tryd.prog 19 = some (true, 1) := by kernel_rfl
theorem fld19n0 : fld Tryd.prog 19 0 = some (0, false, 1) := by kernel_rfl
theorem bok19 : bldOk Tryd.prog 19 = true := by kernel_rfl
theorem zro19 : zro Tryd.prog 19 = some (.agg #[.pointer none]) := by kernel_rfl
theorem shp20 : shp Tryd.prog 20 = some (false, 1) := by kernel_rfl
theorem zro20 : zro Tryd.prog 20 = some (.nilIface) := by kernel_rfl
theorem shp21 : shp Tryd.prog 21 = some (false, 1) := by kernel_rfl
theorem zro21 : zro Tryd.prog 21 = some (.int .i32 0) := by kernel_rfl
theorem shp22 : shp Tryd.prog 22 = some (false, 1) := by kernel_rfl
theorem zro22 : zro Tryd.prog 22 = some (.slice none 0 0) := by kernel_rfl
theorem slc22 : slc Tryd.prog 22 = some (24, 5, 72) := by kernel_rfl
theorem shp23 : shp Tryd.prog 23 = some (true, 5) := by kernel_rfl
theorem fld23n0 : fld Tryd.prog 23 0 = some (0, false, 1) := by kernel_rfl
theorem fld23n1 : fld Tryd.prog 23 1 = some (1, false, 1) := by kernel_rfl
theorem fld23n2 : fld Tryd.prog 23 2 = some (2, false, 1) := by kernel_rfl
theorem fld23n3 : fld Tryd.prog 23 3 = some (3, false, 1) := by kernel_rfl
theorem fld23n4 : fld Tryd.prog 23 4 = some (4, false, 1) := by kernel_rfl
theorem bok23 : bldOk Tryd.prog 23 = true := by kernel_rfl
theorem sih23 : Tryd.prog.stoodInHeld 23 = false := by kernel_rfl
theorem egt23 : Tryd.prog.eqGuardType Tryd.prog.depth 23 = false := by kernel_rfl
theorem zro23 : zro Tryd.prog 23 = some (.agg #[.int .i64 0, .string ⟨#[]⟩, .string ⟨#[]⟩, .int .i64 0, .slice none 0 0]) := by kernel_rfl
theorem shp24 : shp Tryd.prog 24 = some (true, 5) := by kernel_rfl
theorem fld24n0 : fld Tryd.prog 24 0 = some (0, false, 1) := by kernel_rfl
theorem fld24n1 : fld Tryd.prog 24 1 = some (1, false, 1) := by kernel_rfl
theorem fld24n2 : fld Tryd.prog 24 2 = some (2, false, 1) := by kernel_rfl
theorem fld24n3 : fld Tryd.prog 24 3 = some (3, false, 1) := by kernel_rfl
theorem fld24n4 : fld Tryd.prog 24 4 = some (4, false, 1) := by kernel_rfl
theorem bok24 : bldOk Tryd.prog 24 = true := by kernel_rfl
theorem sih24 : Tryd.prog.stoodInHeld 24 = false := by kernel_rfl
theorem egt24 : Tryd.prog.eqGuardType Tryd.prog.depth 24 = false := by kernel_rfl
theorem zro24 : zro Tryd.prog 24 = some (.agg #[.int .i64 0, .string ⟨#[]⟩, .string ⟨#[]⟩, .int .i64 0, .slice none 0 0]) := by kernel_rfl
theorem shp29 : shp Tryd.prog 29 = some (false, 1) := by kernel_rfl
theorem zro29 : zro Tryd.prog 29 = some (.int .i64 0) := by kernel_rfl
theorem shp32 : shp Tryd.prog 32 = some (false, 1) := by kernel_rfl
theorem zro32 : zro Tryd.prog 32 = some (.slice none 0 0) := by kernel_rfl
theorem slc32 : slc Tryd.prog 32 = some (37, 8, 104) := by kernel_rfl
theorem shp36 : shp Tryd.prog 36 = some (true, 8) := by kernel_rfl
theorem fld36n0 : fld Tryd.prog 36 0 = some (0, false, 1) := by kernel_rfl
theorem fld36n1 : fld Tryd.prog 36 1 = some (1, true, 5) := by kernel_rfl
theorem fld36n2 : fld Tryd.prog 36 2 = some (6, false, 1) := by kernel_rfl
theorem fld36n3 : fld Tryd.prog 36 3 = some (7, false, 1) := by kernel_rfl
theorem bok36 : bldOk Tryd.prog 36 = true := by kernel_rfl
theorem sih36 : Tryd.prog.stoodInHeld 36 = false := by kernel_rfl
theorem egt36 : Tryd.prog.eqGuardType Tryd.prog.depth 36 = false := by kernel_rfl
theorem zro36 : zro Tryd.prog 36 = some (.agg #[.string ⟨#[]⟩, .int .i64 0, .string ⟨#[]⟩, .string ⟨#[]⟩, .int .i64 0, .slice none 0 0, .int .i64 0, .int .i64 0]) := by kernel_rfl
theorem shp37 : shp Tryd.prog 37 = some (true, 8) := by kernel_rfl
theorem fld37n0 : fld Tryd.prog 37 0 = some (0, false, 1) := by kernel_rfl
theorem fld37n1 : fld Tryd.prog 37 1 = some (1, true, 5) := by kernel_rfl
theorem fld37n2 : fld Tryd.prog 37 2 = some (6, false, 1) := by kernel_rfl
theorem fld37n3 : fld Tryd.prog 37 3 = some (7, false, 1) := by kernel_rfl
theorem bok37 : bldOk Tryd.prog 37 = true := by kernel_rfl
theorem sih37 : Tryd.prog.stoodInHeld 37 = false := by kernel_rfl
theorem egt37 : Tryd.prog.eqGuardType Tryd.prog.depth 37 = false := by kernel_rfl
theorem zro37 : zro Tryd.prog 37 = some (.agg #[.string ⟨#[]⟩, .int .i64 0, .string ⟨#[]⟩, .string ⟨#[]⟩, .int .i64 0, .slice none 0 0, .int .i64 0, .int .i64 0]) := by kernel_rfl
theorem shp43 : shp Tryd.prog 43 = some (false, 1) := by kernel_rfl
theorem zro43 : zro Tryd.prog 43 = some (.pointer none) := by kernel_rfl
theorem shp44 : shp Tryd.prog 44 = some (false, 1) := by kernel_rfl
theorem zro44 : zro Tryd.prog 44 = some (.slice none 0 0) := by kernel_rfl
theorem slc44 : slc Tryd.prog 44 = some (5, 1, 1) := by kernel_rfl
theorem shp45 : shp Tryd.prog 45 = some (true, 2) := by kernel_rfl
theorem fld45n0 : fld Tryd.prog 45 0 = some (0, false, 1) := by kernel_rfl
theorem fld45n1 : fld Tryd.prog 45 1 = some (1, false, 1) := by kernel_rfl
theorem bok45 : bldOk Tryd.prog 45 = true := by kernel_rfl
theorem zro45 : zro Tryd.prog 45 = some (.agg #[.pointer none, .slice none 0 0]) := by kernel_rfl
theorem shp46 : shp Tryd.prog 46 = some (true, 2) := by kernel_rfl
theorem fld46n0 : fld Tryd.prog 46 0 = some (0, false, 1) := by kernel_rfl
theorem fld46n1 : fld Tryd.prog 46 1 = some (1, false, 1) := by kernel_rfl
theorem bok46 : bldOk Tryd.prog 46 = true := by kernel_rfl
theorem zro46 : zro Tryd.prog 46 = some (.agg #[.pointer none, .slice none 0 0]) := by kernel_rfl
theorem shp52 : shp Tryd.prog 52 = some (false, 1) := by kernel_rfl
theorem zro52 : zro Tryd.prog 52 = some (.pointer none) := by kernel_rfl
theorem shp55 : shp Tryd.prog 55 = some (true, 4) := by kernel_rfl
theorem fld55n0 : fld Tryd.prog 55 0 = some (0, false, 1) := by kernel_rfl
theorem fld55n1 : fld Tryd.prog 55 1 = some (1, false, 1) := by kernel_rfl
theorem fld55n2 : fld Tryd.prog 55 2 = some (2, false, 1) := by kernel_rfl
theorem fld55n3 : fld Tryd.prog 55 3 = some (3, false, 1) := by kernel_rfl
theorem bok55 : bldOk Tryd.prog 55 = true := by kernel_rfl
theorem sih55 : Tryd.prog.stoodInHeld 55 = false := by kernel_rfl
theorem egt55 : Tryd.prog.eqGuardType Tryd.prog.depth 55 = false := by kernel_rfl
theorem zro55 : zro Tryd.prog 55 = some (.agg #[.int .i64 0, .string ⟨#[]⟩, .int .i64 0, .int .i64 0]) := by kernel_rfl
theorem shp56 : shp Tryd.prog 56 = some (true, 4) := by kernel_rfl
theorem fld56n0 : fld Tryd.prog 56 0 = some (0, false, 1) := by kernel_rfl
theorem fld56n1 : fld Tryd.prog 56 1 = some (1, false, 1) := by kernel_rfl
theorem fld56n2 : fld Tryd.prog 56 2 = some (2, false, 1) := by kernel_rfl
theorem fld56n3 : fld Tryd.prog 56 3 = some (3, false, 1) := by kernel_rfl
theorem bok56 : bldOk Tryd.prog 56 = true := by kernel_rfl
theorem sih56 : Tryd.prog.stoodInHeld 56 = false := by kernel_rfl
theorem egt56 : Tryd.prog.eqGuardType Tryd.prog.depth 56 = false := by kernel_rfl
theorem zro56 : zro Tryd.prog 56 = some (.agg #[.int .i64 0, .string ⟨#[]⟩, .int .i64 0, .int .i64 0]) := by kernel_rfl
theorem shp57 : shp Tryd.prog 57 = some (false, 1) := by kernel_rfl
theorem zro57 : zro Tryd.prog 57 = some (.pointer none) := by kernel_rfl
theorem shp58 : shp Tryd.prog 58 = some (true, 1) := by kernel_rfl
theorem fld58n0 : fld Tryd.prog 58 0 = some (0, false, 1) := by kernel_rfl
theorem bok58 : bldOk Tryd.prog 58 = true := by kernel_rfl
theorem sih58 : Tryd.prog.stoodInHeld 58 = false := by kernel_rfl
theorem egt58 : Tryd.prog.eqGuardType Tryd.prog.depth 58 = false := by kernel_rfl
theorem zro58 : zro Tryd.prog 58 = some (.agg #[.pointer none]) := by kernel_rfl
theorem shp59 : shp Tryd.prog 59 = some (true, 1) := by kernel_rfl
theorem fld59n0 : fld Tryd.prog 59 0 = some (0, false, 1) := by kernel_rfl
theorem bok59 : bldOk Tryd.prog 59 = true := by kernel_rfl
theorem sih59 : Tryd.prog.stoodInHeld 59 = false := by kernel_rfl
theorem egt59 : Tryd.prog.eqGuardType Tryd.prog.depth 59 = false := by kernel_rfl
theorem zro59 : zro Tryd.prog 59 = some (.agg #[.pointer none]) := by kernel_rfl
theorem shp62 : shp Tryd.prog 62 = some (false, 1) := by kernel_rfl
theorem zro62 : zro Tryd.prog 62 = some (.map none) := by kernel_rfl
theorem shp64 : shp Tryd.prog 64 = some (false, 1) := by kernel_rfl
theorem zro64 : zro Tryd.prog 64 = some (.nilIface) := by kernel_rfl
theorem shp65 : shp Tryd.prog 65 = some (false, 1) := by kernel_rfl
theorem zro65 : zro Tryd.prog 65 = some (.nilIface) := by kernel_rfl
theorem shp71 : shp Tryd.prog 71 = some (false, 1) := by kernel_rfl
theorem zro71 : zro Tryd.prog 71 = some (.pointer none) := by kernel_rfl
theorem shp74 : shp Tryd.prog 74 = some (true, 2) := by kernel_rfl
theorem fld74n0 : fld Tryd.prog 74 0 = some (0, false, 1) := by kernel_rfl
theorem fld74n1 : fld Tryd.prog 74 1 = some (1, false, 1) := by kernel_rfl
theorem bok74 : bldOk Tryd.prog 74 = true := by kernel_rfl
theorem sih74 : Tryd.prog.stoodInHeld 74 = false := by kernel_rfl
theorem egt74 : Tryd.prog.eqGuardType Tryd.prog.depth 74 = false := by kernel_rfl
theorem zro74 : zro Tryd.prog 74 = some (.agg #[.int .i64 0, .int .i64 0]) := by kernel_rfl
theorem shp75 : shp Tryd.prog 75 = some (true, 2) := by kernel_rfl
theorem fld75n0 : fld Tryd.prog 75 0 = some (0, false, 1) := by kernel_rfl
theorem fld75n1 : fld Tryd.prog 75 1 = some (1, false, 1) := by kernel_rfl
theorem bok75 : bldOk Tryd.prog 75 = true := by kernel_rfl
theorem sih75 : Tryd.prog.stoodInHeld 75 = false := by kernel_rfl
theorem egt75 : Tryd.prog.eqGuardType Tryd.prog.depth 75 = false := by kernel_rfl
theorem zro75 : zro Tryd.prog 75 = some (.agg #[.int .i64 0, .int .i64 0]) := by kernel_rfl
theorem shp78 : shp Tryd.prog 78 = some (false, 1) := by kernel_rfl
theorem zro78 : zro Tryd.prog 78 = some (.slice none 0 0) := by kernel_rfl
theorem slc78 : slc Tryd.prog 78 = some (56, 4, 40) := by kernel_rfl
theorem shp79 : shp Tryd.prog 79 = some (true, 2) := by kernel_rfl
theorem fld79n0 : fld Tryd.prog 79 0 = some (0, false, 1) := by kernel_rfl
theorem fld79n1 : fld Tryd.prog 79 1 = some (1, false, 1) := by kernel_rfl
theorem bok79 : bldOk Tryd.prog 79 = true := by kernel_rfl
theorem sih79 : Tryd.prog.stoodInHeld 79 = false := by kernel_rfl
theorem egt79 : Tryd.prog.eqGuardType Tryd.prog.depth 79 = false := by kernel_rfl
theorem zro79 : zro Tryd.prog 79 = some (.agg #[.slice none 0 0, .int .i64 0]) := by kernel_rfl
theorem shp80 : shp Tryd.prog 80 = some (true, 2) := by kernel_rfl
theorem fld80n0 : fld Tryd.prog 80 0 = some (0, false, 1) := by kernel_rfl
theorem fld80n1 : fld Tryd.prog 80 1 = some (1, false, 1) := by kernel_rfl
theorem bok80 : bldOk Tryd.prog 80 = true := by kernel_rfl
theorem sih80 : Tryd.prog.stoodInHeld 80 = false := by kernel_rfl
theorem egt80 : Tryd.prog.eqGuardType Tryd.prog.depth 80 = false := by kernel_rfl
theorem zro80 : zro Tryd.prog 80 = some (.agg #[.slice none 0 0, .int .i64 0]) := by kernel_rfl
theorem shp96 : shp Tryd.prog 96 = some (false, 1) := by kernel_rfl
theorem zro96 : zro Tryd.prog 96 = some (.pointer none) := by kernel_rfl
theorem shp102 : shp Tryd.prog 102 = some (true, 24) := by kernel_rfl
theorem bok102 : bldOk Tryd.prog 102 = false := by kernel_rfl
theorem zro102 : zro Tryd.prog 102 = some (.agg #[.int .u8 0, .int .u8 0, .int .u8 0, .int .u8 0, .int .u8 0, .int .u8 0, .int .u8 0, .int .u8 0, .int .u8 0, .int .u8 0, .int .u8 0, .int .u8 0, .int .u8 0, .int .u8 0, .int .u8 0, .int .u8 0, .int .u8 0, .int .u8 0, .int .u8 0, .int .u8 0, .int .u8 0, .int .u8 0, .int .u8 0, .int .u8 0]) := by kernel_rfl
theorem shp103 : shp Tryd.prog 103 = some (false, 1) := by kernel_rfl
theorem zro103 : zro Tryd.prog 103 = some (.int .u64 0) := by kernel_rfl
theorem shp115 : shp Tryd.prog 115 = some (true, 20) := by kernel_rfl
theorem bok115 : bldOk Tryd.prog 115 = false := by kernel_rfl
theorem zro115 : zro Tryd.prog 115 = some (.agg #[.int .u64 0, .int .u64 0, .int .u64 0, .int .u64 0, .int .u64 0, .int .u64 0, .int .u64 0, .int .u64 0, .int .u64 0, .int .u64 0, .int .u64 0, .int .u64 0, .int .u64 0, .int .u64 0, .int .u64 0, .int .u64 0, .int .u64 0, .int .u64 0, .int .u64 0, .int .u64 0]) := by kernel_rfl
theorem shp116 : shp Tryd.prog 116 = some (false, 1) := by kernel_rfl
theorem zro116 : zro Tryd.prog 116 = some (.int .u32 0) := by kernel_rfl
theorem shp117 : shp Tryd.prog 117 = some (true, 65) := by kernel_rfl
theorem bok117 : bldOk Tryd.prog 117 = false := by kernel_rfl
theorem zro117 : zro Tryd.prog 117 = some (.agg #[.int .u8 0, .int .u8 0, .int .u8 0, .int .u8 0, .int .u8 0, .int .u8 0, .int .u8 0, .int .u8 0, .int .u8 0, .int .u8 0, .int .u8 0, .int .u8 0, .int .u8 0, .int .u8 0, .int .u8 0, .int .u8 0, .int .u8 0, .int .u8 0, .int .u8 0, .int .u8 0, .int .u8 0, .int .u8 0, .int .u8 0, .int .u8 0, .int .u8 0, .int .u8 0, .int .u8 0, .int .u8 0, .int .u8 0, .int .u8 0, .int .u8 0, .int .u8 0, .int .u8 0, .int .u8 0, .int .u8 0, .int .u8 0, .int .u8 0, .int .u8 0, .int .u8 0, .int .u8 0, .int .u8 0, .int .u8 0, .int .u8 0, .int .u8 0, .int .u8 0, .int .u8 0, .int .u8 0, .int .u8 0, .int .u8 0, .int .u8 0, .int .u8 0, .int .u8 0, .int .u8 0, .int .u8 0, .int .u8 0, .int .u8 0, .int .u8 0, .int .u8 0, .int .u8 0, .int .u8 0, .int .u8 0, .int .u8 0, .int .u8 0, .int .u8 0, .int .u8 0]) := by kernel_rfl
theorem shp119 : shp Tryd.prog 119 = some (false, 1) := by kernel_rfl
theorem zro119 : zro Tryd.prog 119 = some (.int .u64 0) := by kernel_rfl
theorem shp125 : shp Tryd.prog 125 = some (true, 32) := by kernel_rfl
theorem bok125 : bldOk Tryd.prog 125 = false := by kernel_rfl
theorem zro125 : zro Tryd.prog 125 = some (.agg #[.int .u8 0, .int .u8 0, .int .u8 0, .int .u8 0, .int .u8 0, .int .u8 0, .int .u8 0, .int .u8 0, .int .u8 0, .int .u8 0, .int .u8 0, .int .u8 0, .int .u8 0, .int .u8 0, .int .u8 0, .int .u8 0, .int .u8 0, .int .u8 0, .int .u8 0, .int .u8 0, .int .u8 0, .int .u8 0, .int .u8 0, .int .u8 0, .int .u8 0, .int .u8 0, .int .u8 0, .int .u8 0, .int .u8 0, .int .u8 0, .int .u8 0, .int .u8 0]) := by kernel_rfl
theorem shp126 : shp Tryd.prog 126 = some (true, 64) := by kernel_rfl
theorem bok126 : bldOk Tryd.prog 126 = false := by kernel_rfl
theorem zro126 : zro Tryd.prog 126 = some (.agg #[.int .u8 0, .int .u8 0, .int .u8 0, .int .u8 0, .int .u8 0, .int .u8 0, .int .u8 0, .int .u8 0, .int .u8 0, .int .u8 0, .int .u8 0, .int .u8 0, .int .u8 0, .int .u8 0, .int .u8 0, .int .u8 0, .int .u8 0, .int .u8 0, .int .u8 0, .int .u8 0, .int .u8 0, .int .u8 0, .int .u8 0, .int .u8 0, .int .u8 0, .int .u8 0, .int .u8 0, .int .u8 0, .int .u8 0, .int .u8 0, .int .u8 0, .int .u8 0, .int .u8 0, .int .u8 0, .int .u8 0, .int .u8 0, .int .u8 0, .int .u8 0, .int .u8 0, .int .u8 0, .int .u8 0, .int .u8 0, .int .u8 0, .int .u8 0, .int .u8 0, .int .u8 0, .int .u8 0, .int .u8 0, .int .u8 0, .int .u8 0, .int .u8 0, .int .u8 0, .int .u8 0, .int .u8 0, .int .u8 0, .int .u8 0, .int .u8 0, .int .u8 0, .int .u8 0, .int .u8 0, .int .u8 0, .int .u8 0, .int .u8 0, .int .u8 0]) := by kernel_rfl
theorem shp127 : shp Tryd.prog 127 = some (true, 4) := by kernel_rfl
theorem fld127n0 : fld Tryd.prog 127 0 = some (0, false, 1) := by kernel_rfl
theorem fld127n1 : fld Tryd.prog 127 1 = some (1, false, 1) := by kernel_rfl
theorem fld127n2 : fld Tryd.prog 127 2 = some (2, false, 1) := by kernel_rfl
theorem fld127n3 : fld Tryd.prog 127 3 = some (3, false, 1) := by kernel_rfl
theorem bok127 : bldOk Tryd.prog 127 = true := by kernel_rfl
theorem zro127 : zro Tryd.prog 127 = some (.agg #[.pointer none, .pointer none, .pointer none, .string ⟨#[]⟩]) := by kernel_rfl
theorem shp128 : shp Tryd.prog 128 = some (true, 4) := by kernel_rfl
theorem fld128n0 : fld Tryd.prog 128 0 = some (0, false, 1) := by kernel_rfl
theorem fld128n1 : fld Tryd.prog 128 1 = some (1, false, 1) := by kernel_rfl
theorem fld128n2 : fld Tryd.prog 128 2 = some (2, false, 1) := by kernel_rfl
theorem fld128n3 : fld Tryd.prog 128 3 = some (3, false, 1) := by kernel_rfl
theorem bok128 : bldOk Tryd.prog 128 = true := by kernel_rfl
theorem zro128 : zro Tryd.prog 128 = some (.agg #[.pointer none, .pointer none, .pointer none, .string ⟨#[]⟩]) := by kernel_rfl
theorem shp129 : shp Tryd.prog 129 = some (true, 0) := by kernel_rfl
theorem bok129 : bldOk Tryd.prog 129 = false := by kernel_rfl
theorem zro129 : zro Tryd.prog 129 = some (.agg #[]) := by kernel_rfl
theorem shp130 : shp Tryd.prog 130 = some (true, 0) := by kernel_rfl
theorem fld130n0 : fld Tryd.prog 130 0 = some (0, true, 0) := by kernel_rfl
theorem bok130 : bldOk Tryd.prog 130 = true := by kernel_rfl
theorem zro130 : zro Tryd.prog 130 = some (.agg #[]) := by kernel_rfl
theorem shp131 : shp Tryd.prog 131 = some (true, 0) := by kernel_rfl
theorem fld131n0 : fld Tryd.prog 131 0 = some (0, true, 0) := by kernel_rfl
theorem bok131 : bldOk Tryd.prog 131 = true := by kernel_rfl
theorem zro131 : zro Tryd.prog 131 = some (.agg #[]) := by kernel_rfl
theorem shp132 : shp Tryd.prog 132 = some (false, 1) := by kernel_rfl
theorem zro132 : zro Tryd.prog 132 = some (.int .u8 0) := by kernel_rfl
theorem shp133 : shp Tryd.prog 133 = some (false, 1) := by kernel_rfl
theorem zro133 : zro Tryd.prog 133 = some (.int .u8 0) := by kernel_rfl
theorem shp135 : shp Tryd.prog 135 = some (false, 1) := by kernel_rfl
theorem zro135 : zro Tryd.prog 135 = some (.int .i32 0) := by kernel_rfl
theorem shp136 : shp Tryd.prog 136 = some (false, 1) := by kernel_rfl
theorem zro136 : zro Tryd.prog 136 = some (.int .i32 0) := by kernel_rfl
theorem shp137 : shp Tryd.prog 137 = some (true, 11) := by kernel_rfl
theorem fld137n0 : fld Tryd.prog 137 0 = some (0, false, 1) := by kernel_rfl
theorem fld137n1 : fld Tryd.prog 137 1 = some (1, false, 1) := by kernel_rfl
theorem fld137n2 : fld Tryd.prog 137 2 = some (2, false, 1) := by kernel_rfl
theorem fld137n3 : fld Tryd.prog 137 3 = some (3, false, 1) := by kernel_rfl
theorem fld137n4 : fld Tryd.prog 137 4 = some (4, false, 1) := by kernel_rfl
theorem fld137n5 : fld Tryd.prog 137 5 = some (5, false, 1) := by kernel_rfl
theorem fld137n6 : fld Tryd.prog 137 6 = some (6, false, 1) := by kernel_rfl
theorem fld137n7 : fld Tryd.prog 137 7 = some (7, false, 1) := by kernel_rfl
theorem fld137n8 : fld Tryd.prog 137 8 = some (8, false, 1) := by kernel_rfl
theorem fld137n9 : fld Tryd.prog 137 9 = some (9, false, 1) := by kernel_rfl
theorem fld137n10 : fld Tryd.prog 137 10 = some (10, false, 1) := by kernel_rfl
theorem bok137 : bldOk Tryd.prog 137 = true := by kernel_rfl
theorem zro137 : zro Tryd.prog 137 = some (.agg #[.int .u64 0, .int .u64 0, .int .u32 0, .int .u8 0, .int .u8 0, .int .u8 0, .int .u8 0, .nilFunc, .pointer none, .int .i32 0, .int .i32 0]) := by kernel_rfl
theorem shp138 : shp Tryd.prog 138 = some (true, 11) := by kernel_rfl
theorem fld138n0 : fld Tryd.prog 138 0 = some (0, false, 1) := by kernel_rfl
theorem fld138n1 : fld Tryd.prog 138 1 = some (1, false, 1) := by kernel_rfl
theorem fld138n2 : fld Tryd.prog 138 2 = some (2, false, 1) := by kernel_rfl
theorem fld138n3 : fld Tryd.prog 138 3 = some (3, false, 1) := by kernel_rfl
theorem fld138n4 : fld Tryd.prog 138 4 = some (4, false, 1) := by kernel_rfl
theorem fld138n5 : fld Tryd.prog 138 5 = some (5, false, 1) := by kernel_rfl
theorem fld138n6 : fld Tryd.prog 138 6 = some (6, false, 1) := by kernel_rfl
theorem fld138n7 : fld Tryd.prog 138 7 = some (7, false, 1) := by kernel_rfl
theorem fld138n8 : fld Tryd.prog 138 8 = some (8, false, 1) := by kernel_rfl
theorem fld138n9 : fld Tryd.prog 138 9 = some (9, false, 1) := by kernel_rfl
theorem fld138n10 : fld Tryd.prog 138 10 = some (10, false, 1) := by kernel_rfl
theorem bok138 : bldOk Tryd.prog 138 = true := by kernel_rfl
theorem zro138 : zro Tryd.prog 138 = some (.agg #[.int .u64 0, .int .u64 0, .int .u32 0, .int .u8 0, .int .u8 0, .int .u8 0, .int .u8 0, .nilFunc, .pointer none, .int .i32 0, .int .i32 0]) := by kernel_rfl
theorem cal2 : callable Tryd.prog 2 = true := by kernel_rfl
theorem cal3 : callable Tryd.prog 3 = true := by kernel_rfl
theorem cal4 : callable Tryd.prog 4 = true := by kernel_rfl
theorem cal5 : callable Tryd.prog 5 = true := by kernel_rfl
theorem cal6 : callable Tryd.prog 6 = true := by kernel_rfl
theorem cal7 : callable Tryd.prog 7 = true := by kernel_rfl
theorem cal8 : callable Tryd.prog 8 = true := by kernel_rfl
theorem cal9 : callable Tryd.prog 9 = true := by kernel_rfl
theorem cal10 : callable Tryd.prog 10 = true := by kernel_rfl
theorem cal11 : callable Tryd.prog 11 = true := by kernel_rfl
theorem cal12 : callable Tryd.prog 12 = true := by kernel_rfl
theorem cal13 : callable Tryd.prog 13 = true := by kernel_rfl
theorem cal14 : callable Tryd.prog 14 = true := by kernel_rfl
theorem cal15 : callable Tryd.prog 15 = true := by kernel_rfl
theorem cal16 : callable Tryd.prog 16 = true := by kernel_rfl
theorem cal17 : callable Tryd.prog 17 = true := by kernel_rfl
theorem cal18 : callable Tryd.prog 18 = true := by kernel_rfl
theorem cal19 : callable Tryd.prog 19 = true := by kernel_rfl
theorem cal20 : callable Tryd.prog 20 = true := by kernel_rfl
theorem cal21 : callable Tryd.prog 21 = true := by kernel_rfl
theorem cal22 : callable Tryd.prog 22 = true := by kernel_rfl
theorem cal23 : callable Tryd.prog 23 = true := by kernel_rfl
theorem cal24 : callable Tryd.prog 24 = true := by kernel_rfl
theorem cal25 : callable Tryd.prog 25 = true := by kernel_rfl
theorem cal26 : callable Tryd.prog 26 = true := by kernel_rfl
theorem cal27 : callable Tryd.prog 27 = true := by kernel_rfl
theorem cal28 : callable Tryd.prog 28 = true := by kernel_rfl
theorem cal29 : callable Tryd.prog 29 = true := by kernel_rfl
theorem cal30 : callable Tryd.prog 30 = true := by kernel_rfl
theorem cal31 : callable Tryd.prog 31 = true := by kernel_rfl
theorem cal32 : callable Tryd.prog 32 = true := by kernel_rfl
theorem cal33 : callable Tryd.prog 33 = true := by kernel_rfl
theorem cal34 : callable Tryd.prog 34 = true := by kernel_rfl
theorem cal35 : callable Tryd.prog 35 = true := by kernel_rfl
theorem cal36 : callable Tryd.prog 36 = true := by kernel_rfl
theorem cal37 : callable Tryd.prog 37 = true := by kernel_rfl
theorem cal38 : callable Tryd.prog 38 = true := by kernel_rfl
theorem cal39 : callable Tryd.prog 39 = true := by kernel_rfl
theorem cal40 : callable Tryd.prog 40 = true := by kernel_rfl
theorem cal41 : callable Tryd.prog 41 = true := by kernel_rfl
theorem cal42 : callable Tryd.prog 42 = true := by kernel_rfl
theorem cal43 : callable Tryd.prog 43 = true := by kernel_rfl
theorem cal44 : callable Tryd.prog 44 = true := by kernel_rfl
theorem cal45 : callable Tryd.prog 45 = true := by kernel_rfl
theorem cal46 : callable Tryd.prog 46 = true := by kernel_rfl
theorem cal47 : callable Tryd.prog 47 = true := by kernel_rfl
theorem cal48 : callable Tryd.prog 48 = true := by kernel_rfl
theorem cal49 : callable Tryd.prog 49 = true := by kernel_rfl
theorem cal50 : callable Tryd.prog 50 = true := by kernel_rfl
theorem cal51 : callable Tryd.prog 51 = true := by kernel_rfl
theorem cal52 : callable Tryd.prog 52 = true := by kernel_rfl
theorem cal53 : callable Tryd.prog 53 = true := by kernel_rfl
theorem cal54 : callable Tryd.prog 54 = true := by kernel_rfl
theorem cal55 : callable Tryd.prog 55 = true := by kernel_rfl
theorem cal56 : callable Tryd.prog 56 = true := by kernel_rfl
theorem cal57 : callable Tryd.prog 57 = true := by kernel_rfl
theorem cal58 : callable Tryd.prog 58 = true := by kernel_rfl
theorem cal59 : callable Tryd.prog 59 = true := by kernel_rfl
theorem cal60 : callable Tryd.prog 60 = true := by kernel_rfl
theorem cal61 : callable Tryd.prog 61 = true := by kernel_rfl
theorem cal62 : callable Tryd.prog 62 = true := by kernel_rfl
theorem cal63 : callable Tryd.prog 63 = true := by kernel_rfl
theorem cal64 : callable Tryd.prog 64 = true := by kernel_rfl
theorem cal65 : callable Tryd.prog 65 = true := by kernel_rfl
theorem cal66 : callable Tryd.prog 66 = true := by kernel_rfl
theorem cal67 : callable Tryd.prog 67 = true := by kernel_rfl
theorem cal68 : callable Tryd.prog 68 = true := by kernel_rfl
theorem cal70 : callable Tryd.prog 70 = true := by kernel_rfl
theorem cal71 : callable Tryd.prog 71 = true := by kernel_rfl
theorem cal72 : callable Tryd.prog 72 = true := by kernel_rfl
theorem cal73 : callable Tryd.prog 73 = true := by kernel_rfl
theorem cal74 : callable Tryd.prog 74 = true := by kernel_rfl
theorem cal75 : callable Tryd.prog 75 = true := by kernel_rfl
theorem cal76 : callable Tryd.prog 76 = true := by kernel_rfl
theorem cal77 : callable Tryd.prog 77 = true := by kernel_rfl
theorem cal78 : callable Tryd.prog 78 = true := by kernel_rfl
theorem cal79 : callable Tryd.prog 79 = true := by kernel_rfl
theorem cal80 : callable Tryd.prog 80 = true := by kernel_rfl
theorem cal81 : callable Tryd.prog 81 = true := by kernel_rfl
theorem cal82 : callable Tryd.prog 82 = true := by kernel_rfl
theorem cal83 : callable Tryd.prog 83 = true := by kernel_rfl
theorem cal84 : callable Tryd.prog 84 = true := by kernel_rfl
theorem cal85 : callable Tryd.prog 85 = true := by kernel_rfl
theorem cal86 : callable Tryd.prog 86 = true := by kernel_rfl
theorem cal87 : callable Tryd.prog 87 = true := by kernel_rfl
theorem cal88 : callable Tryd.prog 88 = true := by kernel_rfl
theorem cal89 : callable Tryd.prog 89 = true := by kernel_rfl
theorem cal90 : callable Tryd.prog 90 = true := by kernel_rfl
theorem cal91 : callable Tryd.prog 91 = true := by kernel_rfl
theorem cal92 : callable Tryd.prog 92 = true := by kernel_rfl
theorem cal93 : callable Tryd.prog 93 = true := by kernel_rfl
theorem cal94 : callable Tryd.prog 94 = true := by kernel_rfl
theorem cal95 : callable Tryd.prog 95 = true := by kernel_rfl
theorem cal96 : callable Tryd.prog 96 = true := by kernel_rfl
theorem cal97 : callable Tryd.prog 97 = true := by kernel_rfl
theorem cal99 : callable Tryd.prog 99 = true := by kernel_rfl
theorem cal100 : callable Tryd.prog 100 = true := by kernel_rfl
theorem cal102 : callable Tryd.prog 102 = true := by kernel_rfl
theorem cal103 : callable Tryd.prog 103 = true := by kernel_rfl
theorem cal126 : callable Tryd.prog 126 = true := by kernel_rfl
theorem cal0 : callable Tryd.prog 0 = false := by kernel_rfl
theorem cal1 : callable Tryd.prog 1 = false := by kernel_rfl
theorem cal69 : callable Tryd.prog 69 = false := by kernel_rfl
theorem cal98 : callable Tryd.prog 98 = false := by kernel_rfl
theorem cal101 : callable Tryd.prog 101 = false := by kernel_rfl
theorem cal104 : callable Tryd.prog 104 = false := by kernel_rfl
theorem cal105 : callable Tryd.prog 105 = false := by kernel_rfl
theorem cal106 : callable Tryd.prog 106 = false := by kernel_rfl
theorem cal107 : callable Tryd.prog 107 = false := by kernel_rfl
theorem cal108 : callable Tryd.prog 108 = false := by kernel_rfl
theorem cal109 : callable Tryd.prog 109 = false := by kernel_rfl
theorem cal110 : callable Tryd.prog 110 = false := by kernel_rfl
theorem cal111 : callable Tryd.prog 111 = false := by kernel_rfl
theorem cal112 : callable Tryd.prog 112 = false := by kernel_rfl
theorem cal113 : callable Tryd.prog 113 = false := by kernel_rfl
theorem cal114 : callable Tryd.prog 114 = false := by kernel_rfl
theorem cal115 : callable Tryd.prog 115 = false := by kernel_rfl
theorem cal116 : callable Tryd.prog 116 = false := by kernel_rfl
theorem cal117 : callable Tryd.prog 117 = false := by kernel_rfl
theorem cal118 : callable Tryd.prog 118 = false := by kernel_rfl
theorem cal119 : callable Tryd.prog 119 = false := by kernel_rfl
theorem cal120 : callable Tryd.prog 120 = false := by kernel_rfl
theorem cal121 : callable Tryd.prog 121 = false := by kernel_rfl
theorem cal122 : callable Tryd.prog 122 = false := by kernel_rfl
theorem cal123 : callable Tryd.prog 123 = false := by kernel_rfl
theorem cal124 : callable Tryd.prog 124 = false := by kernel_rfl
theorem cal125 : callable Tryd.prog 125 = false := by kernel_rfl
theorem tyS0 : type_of% (And.intro @shp2 (And.intro @zro2 (And.intro @shp3 (And.intro @zro3 (And.intro @shp4 (And.intro @zro4 (And.intro @shp5 (And.intro @zro5 (And.intro @shp6 (And.intro @zro6 (And.intro @shp7 (And.intro @fld7n0 (And.intro @fld7n1 (And.intro @fld7n2 (And.intro @fld7n3 (And.intro @bok7 (And.intro @zro7 (And.intro @shp8 (And.intro @fld8n0 (And.intro @fld8n1 (And.intro @fld8n2 (And.intro @fld8n3 (And.intro @bok8 (And.intro @zro8 (And.intro @shp9 (And.intro @zro9 (And.intro @shp10 (And.intro @zro10 (And.intro @shp11 (And.intro @zro11 (And.intro @shp12 (And.intro @zro12 (And.intro @shp13 (And.intro @fld13n0 (And.intro @fld13n1 (And.intro @bok13 (And.intro @zro13 (And.intro @shp14 (And.intro @fld14n0 (And.intro @fld14n1 (And.intro @bok14 (And.intro @zro14 (And.intro @shp15 (And.intro @zro15 (And.intro @shp16 (And.intro @zro16 (And.intro @shp17 (And.intro @zro17 (And.intro @shp18 (And.intro @fld18n0 (And.intro @bok18 (And.intro @zro18 (And.intro @shp19 (And.intro @fld19n0 (And.intro @bok19 (And.intro @zro19 (And.intro @shp20 (And.intro @zro20 (And.intro @shp21 (And.intro @zro21 (And.intro @shp22 (And.intro @zro22 (And.intro @slc22 (And.intro @shp23 (And.intro @fld23n0 (And.intro @fld23n1 (And.intro @fld23n2 (And.intro @fld23n3 (And.intro @fld23n4 (And.intro @bok23 (And.intro @sih23 (And.intro @egt23 (And.intro @zro23 (And.intro @shp24 (And.intro @fld24n0 (And.intro @fld24n1 (And.intro @fld24n2 (And.intro @fld24n3 (And.intro @fld24n4 (And.intro @bok24 (And.intro @sih24 (And.intro @egt24 (And.intro @zro24 (And.intro @shp29 (And.intro @zro29 (And.intro @shp32 (And.intro @zro32 (And.intro @slc32 (And.intro @shp36 (And.intro @fld36n0 (And.intro @fld36n1 (And.intro @fld36n2 (And.intro @fld36n3 (And.intro @bok36 (And.intro @sih36 (And.intro @egt36 (And.intro @zro36 (And.intro @shp37 (And.intro @fld37n0 (@fld37n1)))))))))))))))))))))))))))))))))))))))))))))))))))))))))))))))))))))))))))))))))))))))))))))))))))) := And.intro @shp2 (And.intro @zro2 (And.intro @shp3 (And.intro @zro3 (And.intro @shp4 (And.intro @zro4 (And.intro @shp5 (And.intro @zro5 (And.intro @shp6 (And.intro @zro6 (And.intro @shp7 (And.intro @fld7n0 (And.intro @fld7n1 (And.intro @fld7n2 (And.intro @fld7n3 (And.intro @bok7 (And.intro @zro7 (And.intro @shp8 (And.intro @fld8n0 (And.intro @fld8n1 (And.intro @fld8n2 (And.intro @fld8n3 (And.intro @bok8 (And.intro @zro8 (And.intro @shp9 (And.intro @zro9 (And.intro @shp10 (And.intro @zro10 (And.intro @shp11 (And.intro @zro11 (And.intro @shp12 (And.intro @zro12 (And.intro @shp13 (And.intro @fld13n0 (And.intro @fld13n1 (And.intro @bok13 (And.intro @zro13 (And.intro @shp14 (And.intro @fld14n0 (And.intro @fld14n1 (And.intro @bok14 (And.intro @zro14 (And.intro @shp15 (And.intro @zro15 (And.intro @shp16 (And.intro @zro16 (And.intro @shp17 (And.intro @zro17 (And.intro @shp18 (And.intro @fld18n0 (And.intro @bok18 (And.intro @zro18 (And.intro @shp19 (And.intro @fld19n0 (And.intro @bok19 (And.intro @zro19 (And.intro @shp20 (And.intro @zro20 (And.intro @shp21 (And.intro @zro21 (And.intro @shp22 (And.intro @zro22 (And.intro @slc22 (And.intro @shp23 (And.intro @fld23n0 (And.intro @fld23n1 (And.intro @fld23n2 (And.intro @fld23n3 (And.intro @fld23n4 (And.intro @bok23 (And.intro @sih23 (And.intro @egt23 (And.intro @zro23 (And.intro @shp24 (And.intro @fld24n0 (And.intro @fld24n1 (And.intro @fld24n2 (And.intro @fld24n3 (And.intro @fld24n4 (And.intro @bok24 (And.intro @sih24 (And.intro @egt24 (And.intro @zro24 (And.intro @shp29 (And.intro @zro29 (And.intro @shp32 (And.intro @zro32 (And.intro @slc32 (And.intro @shp36 (And.intro @fld36n0 (And.intro @fld36n1 (And.intro @fld36n2 (And.intro @fld36n3 (And.intro @bok36 (And.intro @sih36 (And.intro @egt36 (And.intro @zro36 (And.intro @shp37 (And.intro @fld37n0 (@fld37n1)))))))))))))))))))))))))))))))))))))))))))))))))))))))))))))))))))))))))))))))))))))))))))))))))))
theorem tyS1 : type_of% (And.intro @fld37n2 (And.intro @fld37n3 (And.intro @bok37 (And.intro @sih37 (And.intro @egt37 (And.intro @zro37 (And.intro @shp43 (And.intro @zro43 (And.intro @shp44 (And.intro @zro44 (And.intro @slc44 (And.intro @shp45 (And.intro @fld45n0 (And.intro @fld45n1 (And.intro @bok45 (And.intro @zro45 (And.intro @shp46 (And.intro @fld46n0 (And.intro @fld46n1 (And.intro @bok46 (And.intro @zro46 (And.intro @shp52 (And.intro @zro52 (And.intro @shp55 (And.intro @fld55n0 (And.intro @fld55n1 (And.intro @fld55n2 (And.intro @fld55n3 (And.intro @bok55 (And.intro @sih55 (And.intro @egt55 (And.intro @zro55 (And.intro @shp56 (And.intro @fld56n0 (And.intro @fld56n1 (And.intro @fld56n2 (And.intro @fld56n3 (And.intro @bok56 (And.intro @sih56 (And.intro @egt56 (And.intro @zro56 (And.intro @shp57 (And.intro @zro57 (And.intro @shp58 (And.intro @fld58n0 (And.intro @bok58 (And.intro @sih58 (And.intro @egt58 (And.intro @zro58 (And.intro @shp59 (And.intro @fld59n0 (And.intro @bok59 (And.intro @sih59 (And.intro @egt59 (And.intro @zro59 (And.intro @shp62 (And.intro @zro62 (And.intro @shp64 (And.intro @zro64 (And.intro @shp65 (And.intro @zro65 (And.intro @shp71 (And.intro @zro71 (And.intro @shp74 (And.intro @fld74n0 (And.intro @fld74n1 (And.intro @bok74 (And.intro @sih74 (And.intro @egt74 (And.intro @zro74 (And.intro @shp75 (And.intro @fld75n0 (And.intro @fld75n1 (And.intro @bok75 (And.intro @sih75 (And.intro @egt75 (And.intro @zro75 (And.intro @shp78 (And.intro @zro78 (And.intro @slc78 (And.intro @shp79 (And.intro @fld79n0 (And.intro @fld79n1 (And.intro @bok79 (And.intro @sih79 (And.intro @egt79 (And.intro @zro79 (And.intro @shp80 (And.intro @fld80n0 (And.intro @fld80n1 (And.intro @bok80 (And.intro @sih80 (And.intro @egt80 (And.intro @zro80 (And.intro @shp96 (And.intro @zro96 (And.intro @shp102 (And.intro @bok102 (And.intro @zro102 (@shp103)))))))))))))))))))))))))))))))))))))))))))))))))))))))))))))))))))))))))))))))))))))))))))))))))))) := And.intro @fld37n2 (And.intro @fld37n3 (And.intro @bok37 (And.intro @sih37 (And.intro @egt37 (And.intro @zro37 (And.intro @shp43 (And.intro @zro43 (And.intro @shp44 (And.intro @zro44 (And.intro @slc44 (And.intro @shp45 (And.intro @fld45n0 (And.intro @fld45n1 (And.intro @bok45 (And.intro @zro45 (And.intro @shp46 (And.intro @fld46n0 (And.intro @fld46n1 (And.intro @bok46 (And.intro @zro46 (And.intro @shp52 (And.intro @zro52 (And.intro @shp55 (And.intro @fld55n0 (And.intro @fld55n1 (And.intro @fld55n2 (And.intro @fld55n3 (And.intro @bok55 (And.intro @sih55 (And.intro @egt55 (And.intro @zro55 (And.intro @shp56 (And.intro @fld56n0 (And.intro @fld56n1 (And.intro @fld56n2 (And.intro @fld56n3 (And.intro @bok56 (And.intro @sih56 (And.intro @egt56 (And.intro @zro56 (And.intro @shp57 (And.intro @zro57 (And.intro @shp58 (And.intro @fld58n0 (And.intro @bok58 (And.intro @sih58 (And.intro @egt58 (And.intro @zro58 (And.intro @shp59 (And.intro @fld59n0 (And.intro @bok59 (And.intro @sih59 (And.intro @egt59 (And.intro @zro59 (And.intro @shp62 (And.intro @zro62 (And.intro @shp64 (And.intro @zro64 (And.intro @shp65 (And.intro @zro65 (And.intro @shp71 (And.intro @zro71 (And.intro @shp74 (And.intro @fld74n0 (And.intro @fld74n1 (And.intro @bok74 (And.intro @sih74 (And.intro @egt74 (And.intro @zro74 (And.intro @shp75 (And.intro @fld75n0 (And.intro @fld75n1 (And.intro @bok75 (And.intro @sih75 (And.intro @egt75 (And.intro @zro75 (And.intro @shp78 (And.intro @zro78 (And.intro @slc78 (And.intro @shp79 (And.intro @fld79n0 (And.intro @fld79n1 (And.intro @bok79 (And.intro @sih79 (And.intro @egt79 (And.intro @zro79 (And.intro @shp80 (And.intro @fld80n0 (And.intro @fld80n1 (And.intro @bok80 (And.intro @sih80 (And.intro @egt80 (And.intro @zro80 (And.intro @shp96 (And.intro @zro96 (And.intro @shp102 (And.intro @bok102 (And.intro @zro102 (@shp103)))))))))))))))))))))))))))))))))))))))))))))))))))))))))))))))))))))))))))))))))))))))))))))))))))
theorem tyS2 : type_of% (And.intro @zro103 (And.intro @shp115 (And.intro @bok115 (And.intro @zro115 (And.intro @shp116 (And.intro @zro116 (And.intro @shp117 (And.intro @bok117 (And.intro @zro117 (And.intro @shp119 (And.intro @zro119 (And.intro @shp125 (And.intro @bok125 (And.intro @zro125 (And.intro @shp126 (And.intro @bok126 (And.intro @zro126 (And.intro @shp127 (And.intro @fld127n0 (And.intro @fld127n1 (And.intro @fld127n2 (And.intro @fld127n3 (And.intro @bok127 (And.intro @zro127 (And.intro @shp128 (And.intro @fld128n0 (And.intro @fld128n1 (And.intro @fld128n2 (And.intro @fld128n3 (And.intro @bok128 (And.intro @zro128 (And.intro @shp129 (And.intro @bok129 (And.intro @zro129 (And.intro @shp130 (And.intro @fld130n0 (And.intro @bok130 (And.intro @zro130 (And.intro @shp131 (And.intro @fld131n0 (And.intro @bok131 (And.intro @zro131 (And.intro @shp132 (And.intro @zro132 (And.intro @shp133 (And.intro @zro133 (And.intro @shp135 (And.intro @zro135 (And.intro @shp136 (And.intro @zro136 (And.intro @shp137 (And.intro @fld137n0 (And.intro @fld137n1 (And.intro @fld137n2 (And.intro @fld137n3 (And.intro @fld137n4 (And.intro @fld137n5 (And.intro @fld137n6 (And.intro @fld137n7 (And.intro @fld137n8 (And.intro @fld137n9 (And.intro @fld137n10 (And.intro @bok137 (And.intro @zro137 (And.intro @shp138 (And.intro @fld138n0 (And.intro @fld138n1 (And.intro @fld138n2 (And.intro @fld138n3 (And.intro @fld138n4 (And.intro @fld138n5 (And.intro @fld138n6 (And.intro @fld138n7 (And.intro @fld138n8 (And.intro @fld138n9 (And.intro @fld138n10 (And.intro @bok138 (And.intro @zro138 (And.intro @cal2 (And.intro @cal3 (And.intro @cal4 (And.intro @cal5 (And.intro @cal6 (And.intro @cal7 (And.intro @cal8 (And.intro @cal9 (And.intro @cal10 (And.intro @cal11 (And.intro @cal12 (And.intro @cal13 (And.intro @cal14 (And.intro @cal15 (And.intro @cal16 (And.intro @cal17 (And.intro @cal18 (And.intro @cal19 (And.intro @cal20 (And.intro @cal21 (And.intro @cal22 (@cal23)))))))))))))))))))))))))))))))))))))))))))))))))))))))))))))))))))))))))))))))))))))))))))))))))))) := And.intro @zro103 (And.intro @shp115 (And.intro @bok115 (And.intro @zro115 (And.intro @shp116 (And.intro @zro116 (And.intro @shp117 (And.intro @bok117 (And.intro @zro117 (And.intro @shp119 (And.intro @zro119 (And.intro @shp125 (And.intro @bok125 (And.intro @zro125 (And.intro @shp126 (And.intro @bok126 (And.intro @zro126 (And.intro @shp127 (And.intro @fld127n0 (And.intro @fld127n1 (And.intro @fld127n2 (And.intro @fld127n3 (And.intro @bok127 (And.intro @zro127 (And.intro @shp128 (And.intro @fld128n0 (And.intro @fld128n1 (And.intro @fld128n2 (And.intro @fld128n3 (And.intro @bok128 (And.intro @zro128 (And.intro @shp129 (And.intro @bok129 (And.intro @zro129 (And.intro @shp130 (And.intro @fld130n0 (And.intro @bok130 (And.intro @zro130 (And.intro @shp131 (And.intro @fld131n0 (And.intro @bok131 (And.intro @zro131 (And.intro @shp132 (And.intro @zro132 (And.intro @shp133 (And.intro @zro133 (And.intro @shp135 (And.intro @zro135 (And.intro @shp136 (And.intro @zro136 (And.intro @shp137 (And.intro @fld137n0 (And.intro @fld137n1 (And.intro @fld137n2 (And.intro @fld137n3 (And.intro @fld137n4 (And.intro @fld137n5 (And.intro @fld137n6 (And.intro @fld137n7 (And.intro @fld137n8 (And.intro @fld137n9 (And.intro @fld137n10 (And.intro @bok137 (And.intro @zro137 (And.intro @shp138 (And.intro @fld138n0 (And.intro @fld138n1 (And.intro @fld138n2 (And.intro @fld138n3 (And.intro @fld138n4 (And.intro @fld138n5 (And.intro @fld138n6 (And.intro @fld138n7 (And.intro @fld138n8 (And.intro @fld138n9 (And.intro @fld138n10 (And.intro @bok138 (And.intro @zro138 (And.intro @cal2 (And.intro @cal3 (And.intro @cal4 (And.intro @cal5 (And.intro @cal6 (And.intro @cal7 (And.intro @cal8 (And.intro @cal9 (And.intro @cal10 (And.intro @cal11 (And.intro @cal12 (And.intro @cal13 (And.intro @cal14 (And.intro @cal15 (And.intro @cal16 (And.intro @cal17 (And.intro @cal18 (And.intro @cal19 (And.intro @cal20 (And.intro @cal21 (And.intro @cal22 (@cal23)))))))))))))))))))))))))))))))))))))))))))))))))))))))))))))))))))))))))))))))))))))))))))))))))))
theorem tyS3 : type_of% (And.intro @cal24 (And.intro @cal25 (And.intro @cal26 (And.intro @cal27 (And.intro @cal28 (And.intro @cal29 (And.intro @cal30 (And.intro @cal31 (And.intro @cal32 (And.intro @cal33 (And.intro @cal34 (And.intro @cal35 (And.intro @cal36 (And.intro @cal37 (And.intro @cal38 (And.intro @cal39 (And.intro @cal40 (And.intro @cal41 (And.intro @cal42 (And.intro @cal43 (And.intro @cal44 (And.intro @cal45 (And.intro @cal46 (And.intro @cal47 (And.intro @cal48 (And.intro @cal49 (And.intro @cal50 (And.intro @cal51 (And.intro @cal52 (And.intro @cal53 (And.intro @cal54 (And.intro @cal55 (And.intro @cal56 (And.intro @cal57 (And.intro @cal58 (And.intro @cal59 (And.intro @cal60 (And.intro @cal61 (And.intro @cal62 (And.intro @cal63 (And.intro @cal64 (And.intro @cal65 (And.intro @cal66 (And.intro @cal67 (And.intro @cal68 (And.intro @cal70 (And.intro @cal71 (And.intro @cal72 (And.intro @cal73 (And.intro @cal74 (And.intro @cal75 (And.intro @cal76 (And.intro @cal77 (And.intro @cal78 (And.intro @cal79 (And.intro @cal80 (And.intro @cal81 (And.intro @cal82 (And.intro @cal83 (And.intro @cal84 (And.intro @cal85 (And.intro @cal86 (And.intro @cal87 (And.intro @cal88 (And.intro @cal89 (And.intro @cal90 (And.intro @cal91 (And.intro @cal92 (And.intro @cal93 (And.intro @cal94 (And.intro @cal95 (And.intro @cal96 (And.intro @cal97 (And.intro @cal99 (And.intro @cal100 (And.intro @cal102 (And.intro @cal103 (And.intro @cal126 (And.intro @cal0 (And.intro @cal1 (And.intro @cal69 (And.intro @cal98 (And.intro @cal101 (And.intro @cal104 (And.intro @cal105 (And.intro @cal106 (And.intro @cal107 (And.intro @cal108 (And.intro @cal109 (And.intro @cal110 (And.intro @cal111 (And.intro @cal112 (And.intro @cal113 (And.intro @cal114 (And.intro @cal115 (And.intro @cal116 (And.intro @cal117 (And.intro @cal118 (And.intro @cal119 (@cal120)))))))))))))))))))))))))))))))))))))))))))))))))))))))))))))))))))))))))))))))))))))))))))))))))))) := And.intro @cal24 (And.intro @cal25 (And.intro @cal26 (And.intro @cal27 (And.intro @cal28 (And.intro @cal29 (And.intro @cal30 (And.intro @cal31 (And.intro @cal32 (And.intro @cal33 (And.intro @cal34 (And.intro @cal35 (And.intro @cal36 (And.intro @cal37 (And.intro @cal38 (And.intro @cal39 (And.intro @cal40 (And.intro @cal41 (And.intro @cal42 (And.intro @cal43 (And.intro @cal44 (And.intro @cal45 (And.intro @cal46 (And.intro @cal47 (And.intro @cal48 (And.intro @cal49 (And.intro @cal50 (And.intro @cal51 (And.intro @cal52 (And.intro @cal53 (And.intro @cal54 (And.intro @cal55 (And.intro @cal56 (And.intro @cal57 (And.intro @cal58 (And.intro @cal59 (And.intro @cal60 (And.intro @cal61 (And.intro @cal62 (And.intro @cal63 (And.intro @cal64 (And.intro @cal65 (And.intro @cal66 (And.intro @cal67 (And.intro @cal68 (And.intro @cal70 (And.intro @cal71 (And.intro @cal72 (And.intro @cal73 (And.intro @cal74 (And.intro @cal75 (And.intro @cal76 (And.intro @cal77 (And.intro @cal78 (And.intro @cal79 (And.intro @cal80 (And.intro @cal81 (And.intro @cal82 (And.intro @cal83 (And.intro @cal84 (And.intro @cal85 (And.intro @cal86 (And.intro @cal87 (And.intro @cal88 (And.intro @cal89 (And.intro @cal90 (And.intro @cal91 (And.intro @cal92 (And.intro @cal93 (And.intro @cal94 (And.intro @cal95 (And.intro @cal96 (And.intro @cal97 (And.intro @cal99 (And.intro @cal100 (And.intro @cal102 (And.intro @cal103 (And.intro @cal126 (And.intro @cal0 (And.intro @cal1 (And.intro @cal69 (And.intro @cal98 (And.intro @cal101 (And.intro @cal104 (And.intro @cal105 (And.intro @cal106 (And.intro @cal107 (And.intro @cal108 (And.intro @cal109 (And.intro @cal110 (And.intro @cal111 (And.intro @cal112 (And.intro @cal113 (And.intro @cal114 (And.intro @cal115 (And.intro @cal116 (And.intro @cal117 (And.intro @cal118 (And.intro @cal119 (@cal120)))))))))))))))))))))))))))))))))))))))))))))))))))))))))))))))))))))))))))))))))))))))))))))))))))
theorem tyS4 : type_of% (And.intro @cal121 (And.intro @cal122 (And.intro @cal123 (And.intro @cal124 (And.intro @cal125 (And.intro @Tryd.underlying2 (And.intro @Tryd.underlying3 (And.intro @Tryd.underlying4 (And.intro @Tryd.underlying5 (And.intro @Tryd.underlying6 (And.intro @Tryd.underlying7 (And.intro @Tryd.underlying8 (And.intro @Tryd.underlying9 (And.intro @Tryd.underlying10 (And.intro @Tryd.underlying11 (And.intro @Tryd.underlying12 (And.intro @Tryd.underlying13 (And.intro @Tryd.underlying14 (And.intro @Tryd.underlying15 (And.intro @Tryd.underlying16 (And.intro @Tryd.underlying17 (And.intro @Tryd.underlying18 (And.intro @Tryd.underlying19 (And.intro @Tryd.underlying21 (And.intro @Tryd.underlying22 (And.intro @Tryd.underlying23 (And.intro @Tryd.underlying24 (And.intro @Tryd.underlying29 (And.intro @Tryd.underlying32 (And.intro @Tryd.underlying36 (And.intro @Tryd.underlying37 (And.intro @Tryd.underlying43 (And.intro @Tryd.underlying44 (And.intro @Tryd.underlying45 (And.intro @Tryd.underlying46 (And.intro @Tryd.underlying52 (And.intro @Tryd.underlying55 (And.intro @Tryd.underlying56 (And.intro @Tryd.underlying57 (And.intro @Tryd.underlying58 (And.intro @Tryd.underlying59 (And.intro @Tryd.underlying62 (And.intro @Tryd.underlying71 (And.intro @Tryd.underlying74 (And.intro @Tryd.underlying75 (And.intro @Tryd.underlying78 (And.intro @Tryd.underlying79 (And.intro @Tryd.underlying80 (And.intro @Tryd.underlying96 (And.intro @Tryd.underlying102 (And.intro @Tryd.underlying103 (And.intro @Tryd.underlying115 (And.intro @Tryd.underlying116 (And.intro @Tryd.underlying117 (And.intro @Tryd.underlying119 (And.intro @Tryd.underlying125 (And.intro @Tryd.underlying126 (And.intro @Tryd.underlying127 (And.intro @Tryd.underlying128 (And.intro @Tryd.underlying129 (And.intro @Tryd.underlying130 (And.intro @Tryd.underlying131 (And.intro @Tryd.underlying132 (And.intro @Tryd.underlying133 (And.intro @Tryd.underlying135 (And.intro @Tryd.underlying136 (And.intro @Tryd.underlying137 (And.intro @Tryd.underlying138 (And.intro @Tryd.results2 (And.intro @Tryd.results3 (And.intro @Tryd.results4 (And.intro @Tryd.results5 (And.intro @Tryd.results6 (And.intro @Tryd.results7 (And.intro @Tryd.results8 (And.intro @Tryd.results9 (And.intro @Tryd.results10 (And.intro @Tryd.results11 (And.intro @Tryd.results12 (And.intro @Tryd.results13 (And.intro @Tryd.results14 (And.intro @Tryd.results15 (And.intro @Tryd.results16 (And.intro @Tryd.results17 (And.intro @Tryd.results18 (And.intro @Tryd.results19 (And.intro @Tryd.results20 (And.intro @Tryd.results21 (And.intro @Tryd.results22 (And.intro @Tryd.results23 (And.intro @Tryd.results24 (And.intro @Tryd.results25 (And.intro @Tryd.results26 (And.intro @Tryd.results27 (And.intro @Tryd.results28 (And.intro @Tryd.results29 (And.intro @Tryd.results30 (And.intro @Tryd.results31 (And.intro @Tryd.results32 (@Tryd.results33)))))))))))))))))))))))))))))))))))))))))))))))))))))))))))))))))))))))))))))))))))))))))))))))))))) := And.intro @cal121 (And.intro @cal122 (And.intro @cal123 (And.intro @cal124 (And.intro @cal125 (And.intro @Tryd.underlying2 (And.intro @Tryd.underlying3 (And.intro @Tryd.underlying4 (And.intro @Tryd.underlying5 (And.intro @Tryd.underlying6 (And.intro @Tryd.underlying7 (And.intro @Tryd.underlying8 (And.intro @Tryd.underlying9 (And.intro @Tryd.underlying10 (And.intro @Tryd.underlying11 (And.intro @Tryd.underlying12 (And.intro @Tryd.underlying13 (And.intro @Tryd.underlying14 (And.intro @Tryd.underlying15 (And.intro @Tryd.underlying16 (And.intro @Tryd.underlying17 (And.intro @Tryd.underlying18 (And.intro @Tryd.underlying19 (And.intro @Tryd.underlying21 (And.intro @Tryd.underlying22 (And.intro @Tryd.underlying23 (And.intro @Tryd.underlying24 (And.intro @Tryd.underlying29 (And.intro @Tryd.underlying32 (And.intro @Tryd.underlying36 (And.intro @Tryd.underlying37 (And.intro @Tryd.underlying43 (And.intro @Tryd.underlying44 (And.intro @Tryd.underlying45 (And.intro @Tryd.underlying46 (And.intro @Tryd.underlying52 (And.intro @Tryd.underlying55 (And.intro @Tryd.underlying56 (And.intro @Tryd.underlying57 (And.intro @Tryd.underlying58 (And.intro @Tryd.underlying59 (And.intro @Tryd.underlying62 (And.intro @Tryd.underlying71 (And.intro @Tryd.underlying74 (And.intro @Tryd.underlying75 (And.intro @Tryd.underlying78 (And.intro @Tryd.underlying79 (And.intro @Tryd.underlying80 (And.intro @Tryd.underlying96 (And.intro @Tryd.underlying102 (And.intro @Tryd.underlying103 (And.intro @Tryd.underlying115 (And.intro @Tryd.underlying116 (And.intro @Tryd.underlying117 (And.intro @Tryd.underlying119 (And.intro @Tryd.underlying125 (And.intro @Tryd.underlying126 (And.intro @Tryd.underlying127 (And.intro @Tryd.underlying128 (And.intro @Tryd.underlying129 (And.intro @Tryd.underlying130 (And.intro @Tryd.underlying131 (And.intro @Tryd.underlying132 (And.intro @Tryd.underlying133 (And.intro @Tryd.underlying135 (And.intro @Tryd.underlying136 (And.intro @Tryd.underlying137 (And.intro @Tryd.underlying138 (And.intro @Tryd.results2 (And.intro @Tryd.results3 (And.intro @Tryd.results4 (And.intro @Tryd.results5 (And.intro @Tryd.results6 (And.intro @Tryd.results7 (And.intro @Tryd.results8 (And.intro @Tryd.results9 (And.intro @Tryd.results10 (And.intro @Tryd.results11 (And.intro @Tryd.results12 (And.intro @Tryd.results13 (And.intro @Tryd.results14 (And.intro @Tryd.results15 (And.intro @Tryd.results16 (And.intro @Tryd.results17 (And.intro @Tryd.results18 (And.intro @Tryd.results19 (And.intro @Tryd.results20 (And.intro @Tryd.results21 (And.intro @Tryd.results22 (And.intro @Tryd.results23 (And.intro @Tryd.results24 (And.intro @Tryd.results25 (And.intro @Tryd.results26 (And.intro @Tryd.results27 (And.intro @Tryd.results28 (And.intro @Tryd.results29 (And.intro @Tryd.results30 (And.intro @Tryd.results31 (And.intro @Tryd.results32 (@Tryd.results33)))))))))))))))))))))))))))))))))))))))))))))))))))))))))))))))))))))))))))))))))))))))))))))))))))
theorem tyS5 : type_of% (And.intro @Tryd.results34 (And.intro @Tryd.results35 (And.intro @Tryd.results36 (And.intro @Tryd.results37 (And.intro @Tryd.results38 (And.intro @Tryd.results39 (And.intro @Tryd.results40 (And.intro @Tryd.results41 (And.intro @Tryd.results42 (And.intro @Tryd.results43 (And.intro @Tryd.results44 (And.intro @Tryd.results45 (And.intro @Tryd.results46 (And.intro @Tryd.results47 (And.intro @Tryd.results48 (And.intro @Tryd.results49 (And.intro @Tryd.results50 (And.intro @Tryd.results51 (And.intro @Tryd.results52 (And.intro @Tryd.results53 (And.intro @Tryd.results54 (And.intro @Tryd.results55 (And.intro @Tryd.results56 (And.intro @Tryd.results57 (And.intro @Tryd.results58 (And.intro @Tryd.results59 (And.intro @Tryd.results60 (And.intro @Tryd.results61 (And.intro @Tryd.results62 (And.intro @Tryd.results63 (And.intro @Tryd.results64 (And.intro @Tryd.results65 (And.intro @Tryd.results66 (And.intro @Tryd.results67 (And.intro @Tryd.results68 (And.intro @Tryd.results70 (And.intro @Tryd.results71 (And.intro @Tryd.results72 (And.intro @Tryd.results73 (And.intro @Tryd.results74 (And.intro @Tryd.results75 (And.intro @Tryd.results76 (And.intro @Tryd.results77 (And.intro @Tryd.results78 (And.intro @Tryd.results79 (And.intro @Tryd.results80 (And.intro @Tryd.results81 (And.intro @Tryd.results82 (And.intro @Tryd.results83 (And.intro @Tryd.results84 (And.intro @Tryd.results85 (And.intro @Tryd.results86 (And.intro @Tryd.results87 (And.intro @Tryd.results88 (And.intro @Tryd.results89 (And.intro @Tryd.results90 (And.intro @Tryd.results91 (And.intro @Tryd.results92 (And.intro @Tryd.results93 (And.intro @Tryd.results94 (And.intro @Tryd.results95 (And.intro @Tryd.results96 (And.intro @Tryd.results97 (And.intro @Tryd.results99 (And.intro @Tryd.results100 (And.intro @Tryd.results102 (And.intro @Tryd.results103 (@Tryd.results126)))))))))))))))))))))))))))))))))))))))))))))))))))))))))))))))))))) := And.intro @Tryd.results34 (And.intro @Tryd.results35 (And.intro @Tryd.results36 (And.intro @Tryd.results37 (And.intro @Tryd.results38 (And.intro @Tryd.results39 (And.intro @Tryd.results40 (And.intro @Tryd.results41 (And.intro @Tryd.results42 (And.intro @Tryd.results43 (And.intro @Tryd.results44 (And.intro @Tryd.results45 (And.intro @Tryd.results46 (And.intro @Tryd.results47 (And.intro @Tryd.results48 (And.intro @Tryd.results49 (And.intro @Tryd.results50 (And.intro @Tryd.results51 (And.intro @Tryd.results52 (And.intro @Tryd.results53 (And.intro @Tryd.results54 (And.intro @Tryd.results55 (And.intro @Tryd.results56 (And.intro @Tryd.results57 (And.intro @Tryd.results58 (And.intro @Tryd.results59 (And.intro @Tryd.results60 (And.intro @Tryd.results61 (And.intro @Tryd.results62 (And.intro @Tryd.results63 (And.intro @Tryd.results64 (And.intro @Tryd.results65 (And.intro @Tryd.results66 (And.intro @Tryd.results67 (And.intro @Tryd.results68 (And.intro @Tryd.results70 (And.intro @Tryd.results71 (And.intro @Tryd.results72 (And.intro @Tryd.results73 (And.intro @Tryd.results74 (And.intro @Tryd.results75 (And.intro @Tryd.results76 (And.intro @Tryd.results77 (And.intro @Tryd.results78 (And.intro @Tryd.results79 (And.intro @Tryd.results80 (And.intro @Tryd.results81 (And.intro @Tryd.results82 (And.intro @Tryd.results83 (And.intro @Tryd.results84 (And.intro @Tryd.results85 (And.intro @Tryd.results86 (And.intro @Tryd.results87 (And.intro @Tryd.results88 (And.intro @Tryd.results89 (And.intro @Tryd.results90 (And.intro @Tryd.results91 (And.intro @Tryd.results92 (And.intro @Tryd.results93 (And.intro @Tryd.results94 (And.intro @Tryd.results95 (And.intro @Tryd.results96 (And.intro @Tryd.results97 (And.intro @Tryd.results99 (And.intro @Tryd.results100 (And.intro @Tryd.results102 (And.intro @Tryd.results103 (@Tryd.results126)))))))))))))))))))))))))))))))))))))))))))))))))))))))))))))))))))
theorem tyS : type_of% (And.intro @tyS0 (And.intro @tyS1 (And.intro @tyS2 (And.intro @tyS3 (And.intro @tyS4 (@tyS5)))))) := And.intro @tyS0 (And.intro @tyS1 (And.intro @tyS2 (And.intro @tyS3 (And.intro @tyS4 (@tyS5)))))
end Go.Proofs.YtgglccpckhpocaaDoor
