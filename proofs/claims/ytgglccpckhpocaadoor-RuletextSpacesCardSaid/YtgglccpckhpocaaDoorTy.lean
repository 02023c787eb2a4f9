/-
Closed facts on the types and functions of this translation.
Conditions: none.
-/
import Derived.Test.YtgglccpckhpocaaDoorProg
import Derived.Test.YtgglccpckhpocaaDoorVmEq
import Derived.KernelRfl
set_option linter.unusedSimpArgs false
set_option linter.unusedVariables false
namespace Go.Proofs.YtgglccpckhpocaaDoor
open Go.Vm
set_option maxRecDepth 100000
theorem shp2 : shp Tryd.prog 2 = some (false, 1) := by kernel_rfl
theorem zro2 : zro Tryd.prog 2 = some (.int .i64 0) := by kernel_rfl
theorem shp3 : shp Tryd.prog 3 = some (false, 1) := by kernel_rfl
theorem zro3 : zro Tryd.prog 3 = some (.int .i64 0) := by kernel_rfl
theorem shp4 : shp Tryd.prog 4 = some (false, 1) := by kernel_rfl
theorem zro4 : zro Tryd.prog 4 = some (.bool false) := by kernel_rfl
theorem shp5 : shp Tryd.prog 5 = some (false, 1) := by kernel_rfl
theorem zro5 : zro Tryd.prog 5 = some (.int .u8 0) := by kernel_rfl
theorem shp6 : shp Tryd.prog 6 = some (false, 1) := by kernel_rfl
theorem zro6 : zro Tryd.prog 6 = some (.int .u8 0) := by kernel_rfl
theorem shp7 : shp Tryd.prog 7 = some (true, 4) := by kernel_rfl
theorem fld7n0 : fld Tryd.prog 7 0 = some (0, false, 1) := by kernel_rfl
theorem fld7n1 : fld Tryd.prog 7 1 = some (1, false, 1) := by kernel_rfl
theorem fld7n2 : fld Tryd.prog 7 2 = some (2, false, 1) := by kernel_rfl
theorem fld7n3 : fld Tryd.prog 7 3 = some (3, false, 1) := by kernel_rfl
theorem bok7 : bldOk Tryd.prog 7 = true := by kernel_rfl
theorem zro7 : zro Tryd.prog 7 = some (.agg #[.int .i64 0, .int .i64 0, .bool false, .int .u8 0]) := by kernel_rfl
theorem shp8 : shp Tryd.prog 8 = some (true, 4) := by kernel_rfl
theorem fld8n0 : fld Tryd.prog 8 0 = some (0, false, 1) := by kernel_rfl
theorem fld8n1 : fld Tryd.prog 8 1 = some (1, false, 1) := by kernel_rfl
theorem fld8n2 : fld Tryd.prog 8 2 = some (2, false, 1) := by kernel_rfl
theorem fld8n3 : fld Tryd.prog 8 3 = some (3, false, 1) := by kernel_rfl
theorem bok8 : bldOk Tryd.prog 8 = true := by kernel_rfl
theorem zro8 : zro Tryd.prog 8 = some (.agg #[.int .i64 0, .int .i64 0, .bool false, .int .u8 0]) := by kernel_rfl
theorem shp9 : shp Tryd.prog 9 = some (false, 1) := by kernel_rfl
theorem zro9 : zro Tryd.prog 9 = some (.string ⟨#[]⟩) := by kernel_rfl
theorem shp10 : shp Tryd.prog 10 = some (false, 1) := by kernel_rfl
theorem zro10 : zro Tryd.prog 10 = some (.string ⟨#[]⟩) := by kernel_rfl
theorem shp11 : shp Tryd.prog 11 = some (false, 1) := by kernel_rfl
theorem zro11 : zro Tryd.prog 11 = some (.string ⟨#[]⟩) := by kernel_rfl
theorem shp12 : shp Tryd.prog 12 = some (false, 1) := by kernel_rfl
theorem zro12 : zro Tryd.prog 12 = some (.int .u64 0) := by kernel_rfl
theorem shp13 : shp Tryd.prog 13 = some (true, 2) := by kernel_rfl
theorem fld13n0 : fld Tryd.prog 13 0 = some (0, false, 1) := by kernel_rfl
theorem fld13n1 : fld Tryd.prog 13 1 = some (1, false, 1) := by kernel_rfl
theorem bok13 : bldOk Tryd.prog 13 = true := by kernel_rfl
theorem zro13 : zro Tryd.prog 13 = some (.agg #[.string ⟨#[]⟩, .int .u64 0]) := by kernel_rfl
theorem shp14 : shp Tryd.prog 14 = some (true, 2) := by kernel_rfl
theorem fld14n0 : fld Tryd.prog 14 0 = some (0, false, 1) := by kernel_rfl
theorem fld14n1 : fld Tryd.prog 14 1 = some (1, false, 1) := by kernel_rfl
theorem bok14 : bldOk Tryd.prog 14 = true := by kernel_rfl
theorem zro14 : zro Tryd.prog 14 = some (.agg #[.string ⟨#[]⟩, .int .u64 0]) := by kernel_rfl
theorem shp15 : shp Tryd.prog 15 = some (false, 1) := by kernel_rfl
theorem zro15 : zro Tryd.prog 15 = some (.pointer none) := by kernel_rfl
theorem shp16 : shp Tryd.prog 16 = some (false, 1) := by kernel_rfl
theorem zro16 : zro Tryd.prog 16 = some (.pointer none) := by kernel_rfl
theorem shp17 : shp Tryd.prog 17 = some (false, 1) := by kernel_rfl
theorem zro17 : zro Tryd.prog 17 = some (.pointer none) := by kernel_rfl
theorem shp18 : shp Tryd.prog 18 = some (true, 1) := by kernel_rfl
theorem fld18n0 : fld Tryd.prog 18 0 = some (0, false, 1) := by kernel_rfl
theorem bok18 : bldOk Tryd.prog 18 = true := by kernel_rfl
theorem zro18 : zro Tryd.prog 18 = some (.agg #[.pointer none]) := by kernel_rfl
theorem shp19 : shp Tryd.prog 19 = some (true, 1) := by kernel_rfl
theorem fld19n0 : fld Tryd.prog 19 0 = some (0, false, 1) := by kernel_rfl
theorem bok19 : bldOk Tryd.prog 19 = true := by kernel_rfl
theorem zro19 : zro Tryd.prog 19 = some (.agg #[.pointer none]) := by kernel_rfl
theorem shp20 : shp Tryd.prog 20 = some (false, 1) := by kernel_rfl
theorem zro20 : zro Tryd.prog 20 = some (.nilIface) := by kernel_rfl
theorem shp21 : shp Tryd.prog 21 = some (false, 1) := by kernel_rfl
theorem zro21 : zro Tryd.prog 21 = some (.int .i32 0) := by kernel_rfl
theorem shp22 : shp Tryd.prog 22 = some (false, 1) := by kernel_rfl
theorem zro22 : zro Tryd.prog 22 = some (.slice none 0 0) := by kernel_rfl
theorem slc22 : slc Tryd.prog 22 = some (24, 5, 72) := by kernel_rfl
theorem shp23 : shp Tryd.prog 23 = some (true, 5) := by kernel_rfl
theorem fld23n0 : fld Tryd.prog 23 0 = some (0, false, 1) := by kernel_rfl
theorem fld23n1 : fld Tryd.prog 23 1 = some (1, false, 1) := by kernel_rfl
theorem fld23n2 : fld Tryd.prog 23 2 = some (2, false, 1) := by kernel_rfl
theorem fld23n3 : fld Tryd.prog 23 3 = some (3, false, 1) := by kernel_rfl
theorem fld23n4 : fld Tryd.prog 23 4 = some (4, false, 1) := by kernel_rfl
theorem bok23 : bldOk Tryd.prog 23 = true := by kernel_rfl
theorem sih23 : Tryd.prog.stoodInHeld 23 = false := by kernel_rfl
theorem egt23 : Tryd.prog.eqGuardType Tryd.prog.depth 23 = false := by kernel_rfl
theorem zro23 : zro Tryd.prog 23 = some (.agg #[.int .i64 0, .string ⟨#[]⟩, .string ⟨#[]⟩, .int .i64 0, .slice none 0 0]) := by kernel_rfl
theorem shp24 : shp Tryd.prog 24 = some (true, 5) := by kernel_rfl
theorem fld24n0 : fld Tryd.prog 24 0 = some (0, false, 1) := by kernel_rfl
theorem fld24n1 : fld Tryd.prog 24 1 = some (1, false, 1) := by kernel_rfl
theorem fld24n2 : fld Tryd.prog 24 2 = some (2, false, 1) := by kernel_rfl
theorem fld24n3 : fld Tryd.prog 24 3 = some (3, false, 1) := by kernel_rfl
theorem fld24n4 : fld Tryd.prog 24 4 = some (4, false, 1) := by kernel_rfl
theorem bok24 : bldOk Tryd.prog 24 = true := by kernel_rfl
theorem sih24 : Tryd.prog.stoodInHeld 24 = false := by kernel_rfl
theorem egt24 : Tryd.prog.eqGuardType Tryd.prog.depth 24 = false := by kernel_rfl
theorem zro24 : zro Tryd.prog 24 = some (.agg #[.int .i64 0, .string ⟨#[]⟩, .string ⟨#[]⟩, .int .i64 0, .slice none 0 0]) := by kernel_rfl
theorem shp29 : shp Tryd.prog 29 = some (false, 1) := by kernel_rfl
theorem zro29 : zro Tryd.prog 29 = some (.int .i64 0) := by kernel_rfl
theorem shp32 : shp Tryd.prog 32 = some (false, 1) := by kernel_rfl
theorem zro32 : zro Tryd.prog 32 = some (.slice none 0 0) := by kernel_rfl
theorem slc32 : slc Tryd.prog 32 = some (37, 8, 104) := by kernel_rfl
theorem shp36 : shp Tryd.prog 36 = some (true, 8) := by kernel_rfl
theorem fld36n0 : fld Tryd.prog 36 0 = some (0, false, 1) := by kernel_rfl
theorem fld36n1 : fld Tryd.prog 36 1 = some (1, true, 5) := by kernel_rfl
theorem fld36n2 : fld Tryd.prog 36 2 = some (6, false, 1) := by kernel_rfl
theorem fld36n3 : fld Tryd.prog 36 3 = some (7, false, 1) := by kernel_rfl
theorem bok36 : bldOk Tryd.prog 36 = true := by kernel_rfl
theorem sih36 : Tryd.prog.stoodInHeld 36 = false := by kernel_rfl
theorem egt36 : Tryd.prog.eqGuardType Tryd.prog.depth 36 = false := by kernel_rfl
theorem zro36 : zro Tryd.prog 36 = some (.agg #[.string ⟨#[]⟩, .int .i64 0, .string ⟨#[]⟩, .string ⟨#[]⟩, .int .i64 0, .slice none 0 0, .int .i64 0, .int .i64 0]) := by kernel_rfl
theorem shp37 : shp Tryd.prog 37 = some (true, 8) := by kernel_rfl
theorem fld37n0 : fld Tryd.prog 37 0 = some (0, false, 1) := by kernel_rfl
theorem fld37n1 : fld Tryd.prog 37 1 = some (1, true, 5) := by kernel_rfl
theorem fld37n2 : fld Tryd.prog 37 2 = some (6, false, 1) := by kernel_rfl
theorem fld37n3 : fld Tryd.prog 37 3 = some (7, false, 1) := by kernel_rfl
theorem bok37 : bldOk Tryd.prog 37 = true := by kernel_rfl
theorem sih37 : Tryd.prog.stoodInHeld 37 = false := by kernel_rfl
theorem egt37 : Tryd.prog.eqGuardType Tryd.prog.depth 37 = false := by kernel_rfl
theorem zro37 : zro Tryd.prog 37 = some (.agg #[.string ⟨#[]⟩, .int .i64 0, .string ⟨#[]⟩, .string ⟨#[]⟩, .int .i64 0, .slice none 0 0, .int .i64 0, .int .i64 0]) := by kernel_rfl
theorem shp43 : shp Tryd.prog 43 = some (false, 1) := by kernel_rfl
theorem zro43 : zro Tryd.prog 43 = some (.pointer none) := by kernel_rfl
theorem shp44 : shp Tryd.prog 44 = some (false, 1) := by kernel_rfl
theorem zro44 : zro Tryd.prog 44 = some (.slice none 0 0) := by kernel_rfl
theorem slc44 : slc Tryd.prog 44 = some (5, 1, 1) := by kernel_rfl
theorem shp45 : shp Tryd.prog 45 = some (true, 2) := by kernel_rfl
theorem fld45n0 : fld Tryd.prog 45 0 = some (0, false, 1) := by kernel_rfl
theorem fld45n1 : fld Tryd.prog 45 1 = some (1, false, 1) := by kernel_rfl
theorem bok45 : bldOk Tryd.prog 45 = true := by kernel_rfl
theorem zro45 : zro Tryd.prog 45 = some (.agg #[.pointer none, .slice none 0 0]) := by kernel_rfl
theorem shp46 : shp Tryd.prog 46 = some (true, 2) := by kernel_rfl
theorem fld46n0 : fld Tryd.prog 46 0 = some (0, false, 1) := by kernel_rfl
theorem fld46n1 : fld Tryd.prog 46 1 = some (1, false, 1) := by kernel_rfl
theorem bok46 : bldOk Tryd.prog 46 = true := by kernel_rfl
theorem zro46 : zro Tryd.prog 46 = some (.agg #[.pointer none, .slice none 0 0]) := by kernel_rfl
theorem shp52 : shp Tryd.prog 52 = some (false, 1) := by kernel_rfl
theorem zro52 : zro Tryd.prog 52 = some (.pointer none) := by kernel_rfl
theorem shp55 : shp Tryd.prog 55 = some (true, 4) := by kernel_rfl
theorem fld55n0 : fld Tryd.prog 55 0 = some (0, false, 1) := by kernel_rfl
theorem fld55n1 : fld Tryd.prog 55 1 = some (1, false, 1) := by kernel_rfl
theorem fld55n2 : fld Tryd.prog 55 2 = some (2, false, 1) := by kernel_rfl
theorem fld55n3 : fld Tryd.prog 55 3 = some (3, false, 1) := by kernel_rfl
theorem bok55 : bldOk Tryd.prog 55 = true := by kernel_rfl
theorem sih55 : Tryd.prog.stoodInHeld 55 = false := by kernel_rfl
theorem egt55 : Tryd.prog.eqGuardType Tryd.prog.depth 55 = false := by kernel_rfl
theorem zro55 : zro Tryd.prog 55 = some (.agg #[.int .i64 0, .string ⟨#[]⟩, .int .i64 0, .int .i64 0]) := by kernel_rfl
theorem shp56 : shp Tryd.prog 56 = some (true, 4) := by kernel_rfl
theorem fld56n0 : fld Tryd.prog 56 0 = some (0, false, 1) := by kernel_rfl
theorem fld56n1 : fld Tryd.prog 56 1 = some (1, false, 1) := by kernel_rfl
theorem fld56n2 : fld Tryd.prog 56 2 = some (2, false, 1) := by kernel_rfl
theorem fld56n3 : fld Tryd.prog 56 3 = some (3, false, 1) := by kernel_rfl
theorem bok56 : bldOk Tryd.prog 56 = true := by kernel_rfl
theorem sih56 : Tryd.prog.stoodInHeld 56 = false := by kernel_rfl
theorem egt56 : Tryd.prog.eqGuardType Tryd.prog.depth 56 = false := by kernel_rfl
theorem zro56 : zro Tryd.prog 56 = some (.agg #[.int .i64 0, .string ⟨#[]⟩, .int .i64 0, .int .i64 0]) := by kernel_rfl
theorem shp57 : shp Tryd.prog 57 = some (false, 1) := by kernel_rfl
theorem zro57 : zro Tryd.prog 57 = some (.pointer none) := by kernel_rfl
theorem shp58 : shp Tryd.prog 58 = some (true, 1) := by kernel_rfl
theorem fld58n0 : fld Tryd.prog 58 0 = some (0, false, 1) := by kernel_rfl
theorem bok58 : bldOk Tryd.prog 58 = true := by kernel_rfl
theorem sih58 : Tryd.prog.stoodInHeld 58 = false := by kernel_rfl
theorem egt58 : Tryd.prog.eqGuardType Tryd.prog.depth 58 = false := by kernel_rfl
theorem zro58 : zro Tryd.prog 58 = some (.agg #[.pointer none]) := by kernel_rfl
theorem shp59 : shp Tryd.prog 59 = some (true, 1) := by kernel_rfl
theorem fld59n0 : fld Tryd.prog 59 0 = some (0, false, 1) := by kernel_rfl
theorem bok59 : bldOk Tryd.prog 59 = true := by kernel_rfl
theorem sih59 : Tryd.prog.stoodInHeld 59 = false := by kernel_rfl
theorem egt59 : Tryd.prog.eqGuardType Tryd.prog.depth 59 = false := by kernel_rfl
theorem zro59 : zro Tryd.prog 59 = some (.agg #[.pointer none]) := by kernel_rfl
theorem shp62 : shp Tryd.prog 62 = some (false, 1) := by kernel_rfl
theorem zro62 : zro Tryd.prog 62 = some (.map none) := by kernel_rfl
theorem shp64 : shp Tryd.prog 64 = some (false, 1) := by kernel_rfl
theorem zro64 : zro Tryd.prog 64 = some (.nilIface) := by kernel_rfl
theorem shp65 : shp Tryd.prog 65 = some (false, 1) := by kernel_rfl
theorem zro65 : zro Tryd.prog 65 = some (.nilIface) := by kernel_rfl
theorem shp71 : shp Tryd.prog 71 = some (false, 1) := by kernel_rfl
theorem zro71 : zro Tryd.prog 71 = some (.pointer none) := by kernel_rfl
theorem shp74 : shp Tryd.prog 74 = some (true, 2) := by kernel_rfl
theorem fld74n0 : fld Tryd.prog 74 0 = some (0, false, 1) := by kernel_rfl
theorem fld74n1 : fld Tryd.prog 74 1 = some (1, false, 1) := by kernel_rfl
theorem bok74 : bldOk Tryd.prog 74 = true := by kernel_rfl
theorem sih74 : Tryd.prog.stoodInHeld 74 = false := by kernel_rfl
theorem egt74 : Tryd.prog.eqGuardType Tryd.prog.depth 74 = false := by kernel_rfl
theorem zro74 : zro Tryd.prog 74 = some (.agg #[.int .i64 0, .int .i64 0]) := by kernel_rfl
theorem shp75 : shp Tryd.prog 75 = some (true, 2) := by kernel_rfl
theorem fld75n0 : fld Tryd.prog 75 0 = some (0, false, 1) := by kernel_rfl
theorem fld75n1 : fld Tryd.prog 75 1 = some (1, false, 1) := by kernel_rfl
theorem bok75 : bldOk Tryd.prog 75 = true := by kernel_rfl
theorem sih75 : Tryd.prog.stoodInHeld 75 = false := by kernel_rfl
theorem egt75 : Tryd.prog.eqGuardType Tryd.prog.depth 75 = false := by kernel_rfl
theorem zro75 : zro Tryd.prog 75 = some (.agg #[.int .i64 0, .int .i64 0]) := by kernel_rfl
theorem shp78 : shp Tryd.prog 78 = some (false, 1) := by kernel_rfl
theorem zro78 : zro Tryd.prog 78 = some (.slice none 0 0) := by kernel_rfl
theorem slc78 : slc Tryd.prog 78 = some (56, 4, 40) := by kernel_rfl
theorem shp79 : shp Tryd.prog 79 = some (true, 2) := by kernel_rfl
theorem fld79n0 : fld Tryd.prog 79 0 = some (0, false, 1) := by kernel_rfl
theorem fld79n1 : fld Tryd.prog 79 1 = some (1, false, 1) := by kernel_rfl
theorem bok79 : bldOk Tryd.prog 79 = true := by kernel_rfl
theorem sih79 : Tryd.prog.stoodInHeld 79 = false := by kernel_rfl
theorem egt79 : Tryd.prog.eqGuardType Tryd.prog.depth 79 = false := by kernel_rfl
theorem zro79 : zro Tryd.prog 79 = some (.agg #[.slice none 0 0, .int .i64 0]) := by kernel_rfl
theorem shp80 : shp Tryd.prog 80 = some (true, 2) := by kernel_rfl
theorem fld80n0 : fld Tryd.prog 80 0 = some (0, false, 1) := by kernel_rfl
theorem fld80n1 : fld Tryd.prog 80 1 = some (1, false, 1) := by kernel_rfl
theorem bok80 : bldOk Tryd.prog 80 = true := by kernel_rfl
theorem sih80 : Tryd.prog.stoodInHeld 80 = false := by kernel_rfl
theorem egt80 : Tryd.prog.eqGuardType Tryd.prog.depth 80 = false := by kernel_rfl
theorem zro80 : zro Tryd.prog 80 = some (.agg #[.slice none 0 0, .int .i64 0]) := by kernel_rfl
theorem shp96 : shp Tryd.prog 96 = some (false, 1) := by kernel_rfl
theorem zro96 : zro Tryd.prog 96 = some (.pointer none) := by kernel_rfl
theorem shp102 : shp Tryd.prog 102 = some (true, 24) := by kernel_rfl
theorem bok102 : bldOk Tryd.prog 102 = false := by kernel_rfl
theorem zro102 : zro Tryd.prog 102 = some (.agg #[.int .u8 0, .int .u8 0, .int .u8 0, .int .u8 0, .int .u8 0, .int .u8 0, .int .u8 0, .int .u8 0, .int .u8 0, .int .u8 0, .int .u8 0, .int .u8 0, .int .u8 0, .int .u8 0, .int .u8 0, .int .u8 0, .int .u8 0, .int .u8 0, .int .u8 0, .int .u8 0, .int .u8 0, .int .u8 0, .int .u8 0, .int .u8 0]) := by kernel_rfl
theorem shp103 : shp Tryd.prog 103 = some (false, 1) := by kernel_rfl
theorem zro103 : zro Tryd.prog 103 = some (.int .u64 0) := by kernel_rfl
theorem shp115 : shp Tryd.prog 115 = some (true, 20) := by kernel_rfl
theorem bok115 : bldOk Tryd.prog 115 = false := by kernel_rfl
theorem zro115 : zro Tryd.prog 115 = some (.agg #[.int .u64 0, .int .u64 0, .int .u64 0, .int .u64 0, .int .u64 0, .int .u64 0, .int .u64 0, .int .u64 0, .int .u64 0, .int .u64 0, .int .u64 0, .int .u64 0, .int .u64 0, .int .u64 0, .int .u64 0, .int .u64 0, .int .u64 0, .int .u64 0, .int .u64 0, .int .u64 0]) := by kernel_rfl
theorem shp116 : shp Tryd.prog 116 = some (false, 1) := by kernel_rfl
theorem zro116 : zro Tryd.prog 116 = some (.int .u32 0) := by kernel_rfl
theorem shp117 : shp Tryd.prog 117 = some (true, 65) := by kernel_rfl
theorem bok117 : bldOk Tryd.prog 117 = false := by kernel_rfl
theorem zro117 : zro Tryd.prog 117 = some (.agg #[.int .u8 0, .int .u8 0, .int .u8 0, .int .u8 0, .int .u8 0, .int .u8 0, .int .u8 0, .int .u8 0, .int .u8 0, .int .u8 0, .int .u8 0, .int .u8 0, .int .u8 0, .int .u8 0, .int .u8 0, .int .u8 0, .int .u8 0, .int .u8 0, .int .u8 0, .int .u8 0, .int .u8 0, .int .u8 0, .int .u8 0, .int .u8 0, .int .u8 0, .int .u8 0, .int .u8 0, .int .u8 0, .int .u8 0, .int .u8 0, .int .u8 0, .int .u8 0, .int .u8 0, .int .u8 0, .int .u8 0, .int .u8 0, .int .u8 0, .int .u8 0, .int .u8 0, .int .u8 0, .int .u8 0, .int .u8 0, .int .u8 0, .int .u8 0, .int .u8 0, .int .u8 0, .int .u8 0, .int .u8 0, .int .u8 0, .int .u8 0, .int .u8 0, .int .u8 0, .int .u8 0, .int .u8 0, .int .u8 0, .int .u8 0, .int .u8 0, .int .u8 0, .int .u8 0, .int .u8 0, .int .u8 0, .int .u8 0, .int .u8 0, .int .u8 0, .int .u8 0]) := by kernel_rfl
theorem shp119 : shp Tryd.prog 119 = some (false, 1) := by kernel_rfl
theorem zro119 : zro Tryd.prog 119 = some (.int .u64 0) := by kernel_rfl
theorem shp125 : shp Tryd.prog 125 = some (true, 32) := by kernel_rfl
theorem bok125 : bldOk Tryd.prog 125 = false := by kernel_rfl
theorem zro125 : zro Tryd.prog 125 = some (.agg #[.int .u8 0, .int .u8 0, .int .u8 0, .int .u8 0, .int .u8 0, .int .u8 0, .int .u8 0, .int .u8 0, .int .u8 0, .int .u8 0, .int .u8 0, .int .u8 0, .int .u8 0, .int .u8 0, .int .u8 0, .int .u8 0, .int .u8 0, .int .u8 0, .int .u8 0, .int .u8 0, .int .u8 0, .int .u8 0, .int .u8 0, .int .u8 0, .int .u8 0, .int .u8 0, .int .u8 0, .int .u8 0, .int .u8 0, .int .u8 0, .int .u8 0, .int .u8 0]) := by kernel_rfl
theorem shp126 : shp Tryd.prog 126 = some (true, 64) := by kernel_rfl
theorem bok126 : bldOk Tryd.prog 126 = false := by kernel_rfl
theorem zro126 : zro Tryd.prog 126 = some (.agg #[.int .u8 0, .int .u8 0, .int .u8 0, .int .u8 0, .int .u8 0, .int .u8 0, .int .u8 0, .int .u8 0, .int .u8 0, .int .u8 0, .int .u8 0, .int .u8 0, .int .u8 0, .int .u8 0, .int .u8 0, .int .u8 0, .int .u8 0, .int .u8 0, .int .u8 0, .int .u8 0, .int .u8 0, .int .u8 0, .int .u8 0, .int .u8 0, .int .u8 0, .int .u8 0, .int .u8 0, .int .u8 0, .int .u8 0, .int .u8 0, .int .u8 0, .int .u8 0, .int .u8 0, .int .u8 0, .int .u8 0, .int .u8 0, .int .u8 0, .int .u8 0, .int .u8 0, .int .u8 0, .int .u8 0, .int .u8 0, .int .u8 0, .int .u8 0, .int .u8 0, .int .u8 0, .int .u8 0, .int .u8 0, .int .u8 0, .int .u8 0, .int .u8 0, .int .u8 0, .int .u8 0, .int .u8 0, .int .u8 0, .int .u8 0, .int .u8 0, .int .u8 0, .int .u8 0, .int .u8 0, .int .u8 0, .int .u8 0, .int .u8 0, .int .u8 0]) := by kernel_rfl
theorem shp127 : shp Tryd.prog 127 = some (true, 4) := by kernel_rfl
theorem fld127n0 : fld Tryd.prog 127 0 = some (0, false, 1) := by kernel_rfl
theorem fld127n1 : fld Tryd.prog 127 1 = some (1, false, 1) := by kernel_rfl
theorem fld127n2 : fld Tryd.prog 127 2 = some (2, false, 1) := by kernel_rfl
theorem fld127n3 : fld Tryd.prog 127 3 = some (3, false, 1) := by kernel_rfl
theorem bok127 : bldOk Tryd.prog 127 = true := by kernel_rfl
theorem zro127 : zro Tryd.prog 127 = some (.agg #[.pointer none, .pointer none, .pointer none, .string ⟨#[]⟩]) := by kernel_rfl
theorem shp128 : shp Tryd.prog 128 = some (true, 4) := by kernel_rfl
theorem fld128n0 : fld Tryd.prog 128 0 = some (0, false, 1) := by kernel_rfl
theorem fld128n1 : fld Tryd.prog 128 1 = some (1, false, 1) := by kernel_rfl
theorem fld128n2 : fld Tryd.prog 128 2 = some (2, false, 1) := by kernel_rfl
theorem fld128n3 : fld Tryd.prog 128 3 = some (3, false, 1) := by kernel_rfl
theorem bok128 : bldOk Tryd.prog 128 = true := by kernel_rfl
theorem zro128 : zro Tryd.prog 128 = some (.agg #[.pointer none, .pointer none, .pointer none, .string ⟨#[]⟩]) := by kernel_rfl
theorem shp129 : shp Tryd.prog 129 = some (true, 0) := by kernel_rfl
theorem bok129 : bldOk Tryd.prog 129 = false := by kernel_rfl
theorem zro129 : zro Tryd.prog 129 = some (.agg #[]) := by kernel_rfl
theorem shp130 : shp Tryd.prog 130 = some (true, 0) := by kernel_rfl
theorem fld130n0 : fld Tryd.prog 130 0 = some (0, true, 0) := by kernel_rfl
theorem bok130 : bldOk Tryd.prog 130 = true := by kernel_rfl
theorem zro130 : zro Tryd.prog 130 = some (.agg #[]) := by kernel_rfl
theorem shp131 : shp Tryd.prog 131 = some (true, 0) := by kernel_rfl
theorem fld131n0 : fld Tryd.prog 131 0 = some (0, true, 0) := by kernel_rfl
theorem bok131 : bldOk Tryd.prog 131 = true := by kernel_rfl
theorem zro131 : zro Tryd.prog 131 = some (.agg #[]) := by kernel_rfl
theorem shp132 : shp Tryd.prog 132 = some (false, 1) := by kernel_rfl
theorem zro132 : zro Tryd.prog 132 = some (.int .u8 0) := by kernel_rfl
theorem shp133 : shp Tryd.prog 133 = some (false, 1) := by kernel_rfl
theorem zro133 : zro Tryd.prog 133 = some (.int .u8 0) := by kernel_rfl
theorem shp135 : shp Tryd.prog 135 = some (false, 1) := by kernel_rfl
theorem zro135 : zro Tryd.prog 135 = some (.int .i32 0) := by kernel_rfl
theorem shp136 : shp Tryd.prog 136 = some (false, 1) := by kernel_rfl
theorem zro136 : zro Tryd.prog 136 = some (.int .i32 0) := by kernel_rfl
theorem shp137 : shp Tryd.prog 137 = some (true, 11) := by kernel_rfl
theorem fld137n0 : fld Tryd.prog 137 0 = some (0, false, 1) := by kernel_rfl
theorem fld137n1 : fld Tryd.prog 137 1 = some (1, false, 1) := by kernel_rfl
theorem fld137n2 : fld Tryd.prog 137 2 = some (2, false, 1) := by kernel_rfl
theorem fld137n3 : fld Tryd.prog 137 3 = some (3, false, 1) := by kernel_rfl
theorem fld137n4 : fld Tryd.prog 137 4 = some (4, false, 1) := by kernel_rfl
theorem fld137n5 : fld Tryd.prog 137 5 = some (5, false, 1) := by kernel_rfl
theorem fld137n6 : fld Tryd.prog 137 6 = some (6, false, 1) := by kernel_rfl
theorem fld137n7 : fld Tryd.prog 137 7 = some (7, false, 1) := by kernel_rfl
theorem fld137n8 : fld Tryd.prog 137 8 = some (8, false, 1) := by kernel_rfl
theorem fld137n9 : fld Tryd.prog 137 9 = some (9, false, 1) := by kernel_rfl
theorem fld137n10 : fld Tryd.prog 137 10 = some (10, false, 1) := by kernel_rfl
theorem bok137 : bldOk Tryd.prog 137 = true := by kernel_rfl
theorem zro137 : zro Tryd.prog 137 = some (.agg #[.int .u64 0, .int .u64 0, .int .u32 0, .int .u8 0, .int .u8 0, .int .u8 0, .int .u8 0, .nilFunc, .pointer none, .int .i32 0, .int .i32 0]) := by kernel_rfl
theorem shp138 : shp Tryd.prog 138 = some (true, 11) := by kernel_rfl
theorem fld138n0 : fld Tryd.prog 138 0 = some (0, false, 1) := by kernel_rfl
theorem fld138n1 : fld Tryd.prog 138 1 = some (1, false, 1) := by kernel_rfl
theorem fld138n2 : fld Tryd.prog 138 2 = some (2, false, 1) := by kernel_rfl
theorem fld138n3 : fld Tryd.prog 138 3 = some (3, false, 1) := by kernel_rfl
theorem fld138n4 : fld Tryd.prog 138 4 = some (4, false, 1) := by kernel_rfl
theorem fld138n5 : fld Tryd.prog 138 5 = some (5, false, 1) := by kernel_rfl
theorem fld138n6 : fld Tryd.prog 138 6 = some (6, false, 1) := by kernel_rfl
theorem fld138n7 : fld Tryd.prog 138 7 = some (7, false, 1) := by kernel_rfl
theorem fld138n8 : fld Tryd.prog 138 8 = some (8, false, 1) := by kernel_rfl
theorem fld138n9 : fld Tryd.prog 138 9 = some (9, false, 1) := by kernel_rfl
theorem fld138n10 : fld Tryd.prog 138 10 = some (10, false, 1) := by kernel_rfl
theorem bok138 : bldOk Tryd.prog 138 = true := by kernel_rfl
theorem zro138 : zro Tryd.prog 138 = some (.agg #[.int .u64 0, .int .u64 0, .int .u32 0, .int .u8 0, .int .u8 0, .int .u8 0, .int .u8 0, .nilFunc, .pointer none, .int .i32 0, .int .i32 0]) := by kernel_rfl
theorem cal2 : callable Tryd.prog 2 = true := by kernel_rfl
theorem cal3 : callable Tryd.prog 3 = true := by kernel_rfl
theorem cal4 : callable Tryd.prog 4 = true := by kernel_rfl
theorem cal5 : callable Tryd.prog 5 = true := by kernel_rfl
theorem cal6 : callable Tryd.prog 6 = true := by kernel_rfl
theorem cal7 : callable Tryd.prog 7 = true := by kernel_rfl
theorem cal8 : callable Tryd.prog 8 = true := by kernel_rfl
theorem cal9 : callable Tryd.prog 9 = true := by kernel_rfl
theorem cal10 : callable Tryd.prog 10 = true := by kernel_rfl
theorem cal11 : callable Tryd.prog 11 = true := by kernel_rfl
theorem cal12 : callable Tryd.prog 12 = true := by kernel_rfl
theorem cal13 : callable Tryd.prog 13 = true := by kernel_rfl
theorem cal14 : callable Tryd.prog 14 = true := by kernel_rfl
theorem cal15 : callable Tryd.prog 15 = true := by kernel_rfl
theorem cal16 : callable Tryd.prog 16 = true := by kernel_rfl
theorem cal17 : callable Tryd.prog 17 = true := by kernel_rfl
theorem cal18 : callable Tryd.prog 18 = true := by kernel_rfl
theorem cal19 : callable Tryd.prog 19 = true := by kernel_rfl
theorem cal20 : callable Tryd.prog 20 = true := by kernel_rfl
theorem cal21 : callable Tryd.prog 21 = true := by kernel_rfl
theorem cal22 : callable Tryd.prog 22 = true := by kernel_rfl
theorem cal23 : callable Tryd.prog 23 = true := by kernel_rfl
theorem cal24 : callable Tryd.prog 24 = true := by kernel_rfl
theorem cal25 : callable Tryd.prog 25 = true := by kernel_rfl
theorem cal26 : callable Tryd.prog 26 = true := by kernel_rfl
theorem cal27 : callable Tryd.prog 27 = true := by kernel_rfl
theorem cal28 : callable Tryd.prog 28 = true := by kernel_rfl
theorem cal29 : callable Tryd.prog 29 = true := by kernel_rfl
theorem cal30 : callable Tryd.prog 30 = true := by kernel_rfl
theorem cal31 : callable Tryd.prog 31 = true := by kernel_rfl
theorem cal32 : callable Tryd.prog 32 = true := by kernel_rfl
theorem cal33 : callable Tryd.prog 33 = true := by kernel_rfl
theorem cal34 : callable Tryd.prog 34 = true := by kernel_rfl
theorem cal35 : callable Tryd.prog 35 = true := by kernel_rfl
theorem cal36 : callable Tryd.prog 36 = true := by kernel_rfl
theorem cal37 : callable Tryd.prog 37 = true := by kernel_rfl
theorem cal38 : callable Tryd.prog 38 = true := by kernel_rfl
theorem cal39 : callable Tryd.prog 39 = true := by kernel_rfl
theorem cal40 : callable Tryd.prog 40 = true := by kernel_rfl
theorem cal41 : callable Tryd.prog 41 = true := by kernel_rfl
theorem cal42 : callable Tryd.prog 42 = true := by kernel_rfl
theorem cal43 : callable Tryd.prog 43 = true := by kernel_rfl
theorem cal44 : callable Tryd.prog 44 = true := by kernel_rfl
theorem cal45 : callable Tryd.prog 45 = true := by kernel_rfl
theorem cal46 : callable Tryd.prog 46 = true := by kernel_rfl
theorem cal47 : callable Tryd.prog 47 = true := by kernel_rfl
theorem cal48 : callable Tryd.prog 48 = true := by kernel_rfl
theorem cal49 : callable Tryd.prog 49 = true := by kernel_rfl
theorem cal50 : callable Tryd.prog 50 = true := by kernel_rfl
theorem cal51 : callable Tryd.prog 51 = true := by kernel_rfl
theorem cal52 : callable Tryd.prog 52 = true := by kernel_rfl
theorem cal53 : callable Tryd.prog 53 = true := by kernel_rfl
theorem cal54 : callable Tryd.prog 54 = true := by kernel_rfl
theorem cal55 : callable Tryd.prog 55 = true := by kernel_rfl
theorem cal56 : callable Tryd.prog 56 = true := by kernel_rfl
theorem cal57 : callable Tryd.prog 57 = true := by kernel_rfl
theorem cal58 : callable Tryd.prog 58 = true := by kernel_rfl
theorem cal59 : callable Tryd.prog 59 = true := by kernel_rfl
theorem cal60 : callable Tryd.prog 60 = true := by kernel_rfl
theorem cal61 : callable Tryd.prog 61 = true := by kernel_rfl
theorem cal62 : callable Tryd.prog 62 = true := by kernel_rfl
theorem cal63 : callable Tryd.prog 63 = true := by kernel_rfl
theorem cal64 : callable Tryd.prog 64 = true := by kernel_rfl
theorem cal65 : callable Tryd.prog 65 = true := by kernel_rfl
theorem cal66 : callable Tryd.prog 66 = true := by kernel_rfl
theorem cal67 : callable Tryd.prog 67 = true := by kernel_rfl
theorem cal68 : callable Tryd.prog 68 = true := by kernel_rfl
theorem cal70 : callable Tryd.prog 70 = true := by kernel_rfl
theorem cal71 : callable Tryd.prog 71 = true := by kernel_rfl
theorem cal72 : callable Tryd.prog 72 = true := by kernel_rfl
theorem cal73 : callable Tryd.prog 73 = true := by kernel_rfl
theorem cal74 : callable Tryd.prog 74 = true := by kernel_rfl
theorem cal75 : callable Tryd.prog 75 = true := by kernel_rfl
theorem cal76 : callable Tryd.prog 76 = true := by kernel_rfl
theorem cal77 : callable Tryd.prog 77 = true := by kernel_rfl
theorem cal78 : callable Tryd.prog 78 = true := by kernel_rfl
theorem cal79 : callable Tryd.prog 79 = true := by kernel_rfl
theorem cal80 : callable Tryd.prog 80 = true := by kernel_rfl
theorem cal81 : callable Tryd.prog 81 = true := by kernel_rfl
theorem cal82 : callable Tryd.prog 82 = true := by kernel_rfl
theorem cal83 : callable Tryd.prog 83 = true := by kernel_rfl
theorem cal84 : callable Tryd.prog 84 = true := by kernel_rfl
theorem cal85 : callable Tryd.prog 85 = true := by kernel_rfl
theorem cal86 : callable Tryd.prog 86 = true := by kernel_rfl
theorem cal87 : callable Tryd.prog 87 = true := by kernel_rfl
theorem cal88 : callable Tryd.prog 88 = true := by kernel_rfl
theorem cal89 : callable Tryd.prog 89 = true := by kernel_rfl
theorem cal90 : callable Tryd.prog 90 = true := by kernel_rfl
theorem cal91 : callable Tryd.prog 91 = true := by kernel_rfl
theorem cal92 : callable Tryd.prog 92 = true := by kernel_rfl
theorem cal93 : callable Tryd.prog 93 = true := by kernel_rfl
theorem cal94 : callable Tryd.prog 94 = true := by kernel_rfl
theorem cal95 : callable Tryd.prog 95 = true := by kernel_rfl
theorem cal96 : callable Tryd.prog 96 = true := by kernel_rfl
theorem cal97 : callable Tryd.prog 97 = true := by kernel_rfl
theorem cal99 : callable Tryd.prog 99 = true := by kernel_rfl
theorem cal100 : callable Tryd.prog 100 = true := by kernel_rfl
theorem cal102 : callable Tryd.prog 102 = true := by kernel_rfl
theorem cal103 : callable Tryd.prog 103 = true := by kernel_rfl
theorem cal126 : callable Tryd.prog 126 = true := by kernel_rfl
theorem cal0 : callable Tryd.prog 0 = false := by kernel_rfl
theorem cal1 : callable Tryd.prog 1 = false := by kernel_rfl
theorem cal69 : callable Tryd.prog 69 = false := by kernel_rfl
theorem cal98 : callable Tryd.prog 98 = false := by kernel_rfl
theorem cal101 : callable Tryd.prog 101 = false := by kernel_rfl
theorem cal104 : callable Tryd.prog 104 = false := by kernel_rfl
theorem cal105 : callable Tryd.prog 105 = false := by kernel_rfl
theorem cal106 : callable Tryd.prog 106 = false := by kernel_rfl
theorem cal107 : callable Tryd.prog 107 = false := by kernel_rfl
theorem cal108 : callable Tryd.prog 108 = false := by kernel_rfl
theorem cal109 : callable Tryd.prog 109 = false := by kernel_rfl
theorem cal110 : callable Tryd.prog 110 = false := by kernel_rfl
theorem cal111 : callable Tryd.prog 111 = false := by kernel_rfl
theorem cal112 : callable Tryd.prog 112 = false := by kernel_rfl
theorem cal113 : callable Tryd.prog 113 = false := by kernel_rfl
theorem cal114 : callable Tryd.prog 114 = false := by kernel_rfl
theorem cal115 : callable Tryd.prog 115 = false := by kernel_rfl
theorem cal116 : callable Tryd.prog 116 = false := by kernel_rfl
theorem cal117 : callable Tryd.prog 117 = false := by kernel_rfl
theorem cal118 : callable Tryd.prog 118 = false := by kernel_rfl
theorem cal119 : callable Tryd.prog 119 = false := by kernel_rfl
theorem cal120 : callable Tryd.prog 120 = false := by kernel_rfl
theorem cal121 : callable Tryd.prog 121 = false := by kernel_rfl
theorem cal122 : callable Tryd.prog 122 = false := by kernel_rfl
theorem cal123 : callable Tryd.prog 123 = false := by kernel_rfl
theorem cal124 : callable Tryd.prog 124 = false := by kernel_rfl
theorem cal125 : callable Tryd.prog 125 = false := by kernel_rfl
theorem tyS0 : type_of% (An @shp2 (An @zro2 (An @shp3 (An @zro3 (An @shp4 (An @zro4 (An @shp5 (An @zro5 (An @shp6 (An @zro6 (An @shp7 (An @fld7n0 (An @fld7n1 (An @fld7n2 (An @fld7n3 (An @bok7 (An @zro7 (An @shp8 (An @fld8n0 (An @fld8n1 (An @fld8n2 (An @fld8n3 (An @bok8 (An @zro8 (An @shp9 (An @zro9 (An @shp10 (An @zro10 (An @shp11 (An @zro11 (An @shp12 (An @zro12 (An @shp13 (An @fld13n0 (An @fld13n1 (An @bok13 (An @zro13 (An @shp14 (An @fld14n0 (An @fld14n1 (An @bok14 (An @zro14 (An @shp15 (An @zro15 (An @shp16 (An @zro16 (An @shp17 (An @zro17 (An @shp18 (An @fld18n0 (An @bok18 (An @zro18 (An @shp19 (An @fld19n0 (An @bok19 (An @zro19 (An @shp20 (An @zro20 (An @shp21 (An @zro21 (An @shp22 (An @zro22 (An @slc22 (An @shp23 (An @fld23n0 (An @fld23n1 (An @fld23n2 (An @fld23n3 (An @fld23n4 (An @bok23 (An @sih23 (An @egt23 (An @zro23 (An @shp24 (An @fld24n0 (An @fld24n1 (An @fld24n2 (An @fld24n3 (An @fld24n4 (An @bok24 (An @sih24 (An @egt24 (An @zro24 (An @shp29 (An @zro29 (An @shp32 (An @zro32 (An @slc32 (An @shp36 (An @fld36n0 (An @fld36n1 (An @fld36n2 (An @fld36n3 (An @bok36 (An @sih36 (An @egt36 (An @zro36 (An @shp37 (An @fld37n0 @fld37n1))))))))))))))))))))))))))))))))))))))))))))))))))))))))))))))))))))))))))))))))))))))))))))))))))) := ⟨@shp2, @zro2, @shp3, @zro3, @shp4, @zro4, @shp5, @zro5, @shp6, @zro6, @shp7, @fld7n0, @fld7n1, @fld7n2, @fld7n3, @bok7, @zro7, @shp8, @fld8n0, @fld8n1, @fld8n2, @fld8n3, @bok8, @zro8, @shp9, @zro9, @shp10, @zro10, @shp11, @zro11, @shp12, @zro12, @shp13, @fld13n0, @fld13n1, @bok13, @zro13, @shp14, @fld14n0, @fld14n1, @bok14, @zro14, @shp15, @zro15, @shp16, @zro16, @shp17, @zro17, @shp18, @fld18n0, @bok18, @zro18, @shp19, @fld19n0, @bok19, @zro19, @shp20, @zro20, @shp21, @zro21, @shp22, @zro22, @slc22, @shp23, @fld23n0, @fld23n1, @fld23n2, @fld23n3, @fld23n4, @bok23, @sih23, @egt23, @zro23, @shp24, @fld24n0, @fld24n1, @fld24n2, @fld24n3, @fld24n4, @bok24, @sih24, @egt24, @zro24, @shp29, @zro29, @shp32, @zro32, @slc32, @shp36, @fld36n0, @fld36n1, @fld36n2, @fld36n3, @bok36, @sih36, @egt36, @zro36, @shp37, @fld37n0, @fld37n1⟩
theorem tyS1 : type_of% (An @fld37n2 (An @fld37n3 (An @bok37 (An @sih37 (An @egt37 (An @zro37 (An @shp43 (An @zro43 (An @shp44 (An @zro44 (An @slc44 (An @shp45 (An @fld45n0 (An @fld45n1 (An @bok45 (An @zro45 (An @shp46 (An @fld46n0 (An @fld46n1 (An @bok46 (An @zro46 (An @shp52 (An @zro52 (An @shp55 (An @fld55n0 (An @fld55n1 (An @fld55n2 (An @fld55n3 (An @bok55 (An @sih55 (An @egt55 (An @zro55 (An @shp56 (An @fld56n0 (An @fld56n1 (An @fld56n2 (An @fld56n3 (An @bok56 (An @sih56 (An @egt56 (An @zro56 (An @shp57 (An @zro57 (An @shp58 (An @fld58n0 (An @bok58 (An @sih58 (An @egt58 (An @zro58 (An @shp59 (An @fld59n0 (An @bok59 (An @sih59 (An @egt59 (An @zro59 (An @shp62 (An @zro62 (An @shp64 (An @zro64 (An @shp65 (An @zro65 (An @shp71 (An @zro71 (An @shp74 (An @fld74n0 (An @fld74n1 (An @bok74 (An @sih74 (An @egt74 (An @zro74 (An @shp75 (An @fld75n0 (An @fld75n1 (An @bok75 (An @sih75 (An @egt75 (An @zro75 (An @shp78 (An @zro78 (An @slc78 (An @shp79 (An @fld79n0 (An @fld79n1 (An @bok79 (An @sih79 (An @egt79 (An @zro79 (An @shp80 (An @fld80n0 (An @fld80n1 (An @bok80 (An @sih80 (An @egt80 (An @zro80 (An @shp96 (An @zro96 (An @shp102 (An @bok102 (An @zro102 @shp103))))))))))))))))))))))))))))))))))))))))))))))))))))))))))))))))))))))))))))))))))))))))))))))))))) := ⟨@fld37n2, @fld37n3, @bok37, @sih37, @egt37, @zro37, @shp43, @zro43, @shp44, @zro44, @slc44, @shp45, @fld45n0, @fld45n1, @bok45, @zro45, @shp46, @fld46n0, @fld46n1, @bok46, @zro46, @shp52, @zro52, @shp55, @fld55n0, @fld55n1, @fld55n2, @fld55n3, @bok55, @sih55, @egt55, @zro55, @shp56, @fld56n0, @fld56n1, @fld56n2, @fld56n3, @bok56, @sih56, @egt56, @zro56, @shp57, @zro57, @shp58, @fld58n0, @bok58, @sih58, @egt58, @zro58, @shp59, @fld59n0, @bok59, @sih59, @egt59, @zro59, @shp62, @zro62, @shp64, @zro64, @shp65, @zro65, @shp71, @zro71, @shp74, @fld74n0, @fld74n1, @bok74, @sih74, @egt74, @zro74, @shp75, @fld75n0, @fld75n1, @bok75, @sih75, @egt75, @zro75, @shp78, @zro78, @slc78, @shp79, @fld79n0, @fld79n1, @bok79, @sih79, @egt79, @zro79, @shp80, @fld80n0, @fld80n1, @bok80, @sih80, @egt80, @zro80, @shp96, @zro96, @shp102, @bok102, @zro102, @shp103⟩
theorem tyS2 : type_of% (An @zro103 (An @shp115 (An @bok115 (An @zro115 (An @shp116 (An @zro116 (An @shp117 (An @bok117 (An @zro117 (An @shp119 (An @zro119 (An @shp125 (An @bok125 (An @zro125 (An @shp126 (An @bok126 (An @zro126 (An @shp127 (An @fld127n0 (An @fld127n1 (An @fld127n2 (An @fld127n3 (An @bok127 (An @zro127 (An @shp128 (An @fld128n0 (An @fld128n1 (An @fld128n2 (An @fld128n3 (An @bok128 (An @zro128 (An @shp129 (An @bok129 (An @zro129 (An @shp130 (An @fld130n0 (An @bok130 (An @zro130 (An @shp131 (An @fld131n0 (An @bok131 (An @zro131 (An @shp132 (An @zro132 (An @shp133 (An @zro133 (An @shp135 (An @zro135 (An @shp136 (An @zro136 (An @shp137 (An @fld137n0 (An @fld137n1 (An @fld137n2 (An @fld137n3 (An @fld137n4 (An @fld137n5 (An @fld137n6 (An @fld137n7 (An @fld137n8 (An @fld137n9 (An @fld137n10 (An @bok137 (An @zro137 (An @shp138 (An @fld138n0 (An @fld138n1 (An @fld138n2 (An @fld138n3 (An @fld138n4 (An @fld138n5 (An @fld138n6 (An @fld138n7 (An @fld138n8 (An @fld138n9 (An @fld138n10 (An @bok138 (An @zro138 (An @cal2 (An @cal3 (An @cal4 (An @cal5 (An @cal6 (An @cal7 (An @cal8 (An @cal9 (An @cal10 (An @cal11 (An @cal12 (An @cal13 (An @cal14 (An @cal15 (An @cal16 (An @cal17 (An @cal18 (An @cal19 (An @cal20 (An @cal21 (An @cal22 @cal23))))))))))))))))))))))))))))))))))))))))))))))))))))))))))))))))))))))))))))))))))))))))))))))))))) := ⟨@zro103, @shp115, @bok115, @zro115, @shp116, @zro116, @shp117, @bok117, @zro117, @shp119, @zro119, @shp125, @bok125, @zro125, @shp126, @bok126, @zro126, @shp127, @fld127n0, @fld127n1, @fld127n2, @fld127n3, @bok127, @zro127, @shp128, @fld128n0, @fld128n1, @fld128n2, @fld128n3, @bok128, @zro128, @shp129, @bok129, @zro129, @shp130, @fld130n0, @bok130, @zro130, @shp131, @fld131n0, @bok131, @zro131, @shp132, @zro132, @shp133, @zro133, @shp135, @zro135, @shp136, @zro136, @shp137, @fld137n0, @fld137n1, @fld137n2, @fld137n3, @fld137n4, @fld137n5, @fld137n6, @fld137n7, @fld137n8, @fld137n9, @fld137n10, @bok137, @zro137, @shp138, @fld138n0, @fld138n1, @fld138n2, @fld138n3, @fld138n4, @fld138n5, @fld138n6, @fld138n7, @fld138n8, @fld138n9, @fld138n10, @bok138, @zro138, @cal2, @cal3, @cal4, @cal5, @cal6, @cal7, @cal8, @cal9, @cal10, @cal11, @cal12, @cal13, @cal14, @cal15, @cal16, @cal17, @cal18, @cal19, @cal20, @cal21, @cal22, @cal23⟩
theorem tyS3 : type_of% (An @cal24 (An @cal25 (An @cal26 (An @cal27 (An @cal28 (An @cal29 (An @cal30 (An @cal31 (An @cal32 (An @cal33 (An @cal34 (An @cal35 (An @cal36 (An @cal37 (An @cal38 (An @cal39 (An @cal40 (An @cal41 (An @cal42 (An @cal43 (An @cal44 (An @cal45 (An @cal46 (An @cal47 (An @cal48 (An @cal49 (An @cal50 (An @cal51 (An @cal52 (An @cal53 (An @cal54 (An @cal55 (An @cal56 (An @cal57 (An @cal58 (An @cal59 (An @cal60 (An @cal61 (An @cal62 (An @cal63 (An @cal64 (An @cal65 (An @cal66 (An @cal67 (An @cal68 (An @cal70 (An @cal71 (An @cal72 (An @cal73 (An @cal74 (An @cal75 (An @cal76 (An @cal77 (An @cal78 (An @cal79 (An @cal80 (An @cal81 (An @cal82 (An @cal83 (An @cal84 (An @cal85 (An @cal86 (An @cal87 (An @cal88 (An @cal89 (An @cal90 (An @cal91 (An @cal92 (An @cal93 (An @cal94 (An @cal95 (An @cal96 (An @cal97 (An @cal99 (An @cal100 (An @cal102 (An @cal103 (An @cal126 (An @cal0 (An @cal1 (An @cal69 (An @cal98 (An @cal101 (An @cal104 (An @cal105 (An @cal106 (An @cal107 (An @cal108 (An @cal109 (An @cal110 (An @cal111 (An @cal112 (An @cal113 (An @cal114 (An @cal115 (An @cal116 (An @cal117 (An @cal118 (An @cal119 @cal120))))))))))))))))))))))))))))))))))))))))))))))))))))))))))))))))))))))))))))))))))))))))))))))))))) := ⟨@cal24, @cal25, @cal26, @cal27, @cal28, @cal29, @cal30, @cal31, @cal32, @cal33, @cal34, @cal35, @cal36, @cal37, @cal38, @cal39, @cal40, @cal41, @cal42, @cal43, @cal44, @cal45, @cal46, @cal47, @cal48, @cal49, @cal50, @cal51, @cal52, @cal53, @cal54, @cal55, @cal56, @cal57, @cal58, @cal59, @cal60, @cal61, @cal62, @cal63, @cal64, @cal65, @cal66, @cal67, @cal68, @cal70, @cal71, @cal72, @cal73, @cal74, @cal75, @cal76, @cal77, @cal78, @cal79, @cal80, @cal81, @cal82, @cal83, @cal84, @cal85, @cal86, @cal87, @cal88, @cal89, @cal90, @cal91, @cal92, @cal93, @cal94, @cal95, @cal96, @cal97, @cal99, @cal100, @cal102, @cal103, @cal126, @cal0, @cal1, @cal69, @cal98, @cal101, @cal104, @cal105, @cal106, @cal107, @cal108, @cal109, @cal110, @cal111, @cal112, @cal113, @cal114, @cal115, @cal116, @cal117, @cal118, @cal119, @cal120⟩
theorem tyS4 : type_of% (An @cal121 (An @cal122 (An @cal123 (An @cal124 (An @cal125 (An @Tryd.underlying2 (An @Tryd.underlying3 (An @Tryd.underlying4 (An @Tryd.underlying5 (An @Tryd.underlying6 (An @Tryd.underlying7 (An @Tryd.underlying8 (An @Tryd.underlying9 (An @Tryd.underlying10 (An @Tryd.underlying11 (An @Tryd.underlying12 (An @Tryd.underlying13 (An @Tryd.underlying14 (An @Tryd.underlying15 (An @Tryd.underlying16 (An @Tryd.underlying17 (An @Tryd.underlying18 (An @Tryd.underlying19 (An @Tryd.underlying21 (An @Tryd.underlying22 (An @Tryd.underlying23 (An @Tryd.underlying24 (An @Tryd.underlying29 (An @Tryd.underlying32 (An @Tryd.underlying36 (An @Tryd.underlying37 (An @Tryd.underlying43 (An @Tryd.underlying44 (An @Tryd.underlying45 (An @Tryd.underlying46 (An @Tryd.underlying52 (An @Tryd.underlying55 (An @Tryd.underlying56 (An @Tryd.underlying57 (An @Tryd.underlying58 (An @Tryd.underlying59 (An @Tryd.underlying62 (An @Tryd.underlying71 (An @Tryd.underlying74 (An @Tryd.underlying75 (An @Tryd.underlying78 (An @Tryd.underlying79 (An @Tryd.underlying80 (An @Tryd.underlying96 (An @Tryd.underlying102 (An @Tryd.underlying103 (An @Tryd.underlying115 (An @Tryd.underlying116 (An @Tryd.underlying117 (An @Tryd.underlying119 (An @Tryd.underlying125 (An @Tryd.underlying126 (An @Tryd.underlying127 (An @Tryd.underlying128 (An @Tryd.underlying129 (An @Tryd.underlying130 (An @Tryd.underlying131 (An @Tryd.underlying132 (An @Tryd.underlying133 (An @Tryd.underlying135 (An @Tryd.underlying136 (An @Tryd.underlying137 (An @Tryd.underlying138 (An @Tryd.results2 (An @Tryd.results3 (An @Tryd.results4 (An @Tryd.results5 (An @Tryd.results6 (An @Tryd.results7 (An @Tryd.results8 (An @Tryd.results9 (An @Tryd.results10 (An @Tryd.results11 (An @Tryd.results12 (An @Tryd.results13 (An @Tryd.results14 (An @Tryd.results15 (An @Tryd.results16 (An @Tryd.results17 (An @Tryd.results18 (An @Tryd.results19 (An @Tryd.results20 (An @Tryd.results21 (An @Tryd.results22 (An @Tryd.results23 (An @Tryd.results24 (An @Tryd.results25 (An @Tryd.results26 (An @Tryd.results27 (An @Tryd.results28 (An @Tryd.results29 (An @Tryd.results30 (An @Tryd.results31 (An @Tryd.results32 @Tryd.results33))))))))))))))))))))))))))))))))))))))))))))))))))))))))))))))))))))))))))))))))))))))))))))))))))) := ⟨@cal121, @cal122, @cal123, @cal124, @cal125, @Tryd.underlying2, @Tryd.underlying3, @Tryd.underlying4, @Tryd.underlying5, @Tryd.underlying6, @Tryd.underlying7, @Tryd.underlying8, @Tryd.underlying9, @Tryd.underlying10, @Tryd.underlying11, @Tryd.underlying12, @Tryd.underlying13, @Tryd.underlying14, @Tryd.underlying15, @Tryd.underlying16, @Tryd.underlying17, @Tryd.underlying18, @Tryd.underlying19, @Tryd.underlying21, @Tryd.underlying22, @Tryd.underlying23, @Tryd.underlying24, @Tryd.underlying29, @Tryd.underlying32, @Tryd.underlying36, @Tryd.underlying37, @Tryd.underlying43, @Tryd.underlying44, @Tryd.underlying45, @Tryd.underlying46, @Tryd.underlying52, @Tryd.underlying55, @Tryd.underlying56, @Tryd.underlying57, @Tryd.underlying58, @Tryd.underlying59, @Tryd.underlying62, @Tryd.underlying71, @Tryd.underlying74, @Tryd.underlying75, @Tryd.underlying78, @Tryd.underlying79, @Tryd.underlying80, @Tryd.underlying96, @Tryd.underlying102, @Tryd.underlying103, @Tryd.underlying115, @Tryd.underlying116, @Tryd.underlying117, @Tryd.underlying119, @Tryd.underlying125, @Tryd.underlying126, @Tryd.underlying127, @Tryd.underlying128, @Tryd.underlying129, @Tryd.underlying130, @Tryd.underlying131, @Tryd.underlying132, @Tryd.underlying133, @Tryd.underlying135, @Tryd.underlying136, @Tryd.underlying137, @Tryd.underlying138, @Tryd.results2, @Tryd.results3, @Tryd.results4, @Tryd.results5, @Tryd.results6, @Tryd.results7, @Tryd.results8, @Tryd.results9, @Tryd.results10, @Tryd.results11, @Tryd.results12, @Tryd.results13, @Tryd.results14, @Tryd.results15, @Tryd.results16, @Tryd.results17, @Tryd.results18, @Tryd.results19, @Tryd.results20, @Tryd.results21, @Tryd.results22, @Tryd.results23, @Tryd.results24, @Tryd.results25, @Tryd.results26, @Tryd.results27, @Tryd.results28, @Tryd.results29, @Tryd.results30, @Tryd.results31, @Tryd.results32, @Tryd.results33⟩
theorem tyS5 : type_of% (An @Tryd.results34 (An @Tryd.results35 (An @Tryd.results36 (An @Tryd.results37 (An @Tryd.results38 (An @Tryd.results39 (An @Tryd.results40 (An @Tryd.results41 (An @Tryd.results42 (An @Tryd.results43 (An @Tryd.results44 (An @Tryd.results45 (An @Tryd.results46 (An @Tryd.results47 (An @Tryd.results48 (An @Tryd.results49 (An @Tryd.results50 (An @Tryd.results51 (An @Tryd.results52 (An @Tryd.results53 (An @Tryd.results54 (An @Tryd.results55 (An @Tryd.results56 (An @Tryd.results57 (An @Tryd.results58 (An @Tryd.results59 (An @Tryd.results60 (An @Tryd.results61 (An @Tryd.results62 (An @Tryd.results63 (An @Tryd.results64 (An @Tryd.results65 (An @Tryd.results66 (An @Tryd.results67 (An @Tryd.results68 (An @Tryd.results70 (An @Tryd.results71 (An @Tryd.results72 (An @Tryd.results73 (An @Tryd.results74 (An @Tryd.results75 (An @Tryd.results76 (An @Tryd.results77 (An @Tryd.results78 (An @Tryd.results79 (An @Tryd.results80 (An @Tryd.results81 (An @Tryd.results82 (An @Tryd.results83 (An @Tryd.results84 (An @Tryd.results85 (An @Tryd.results86 (An @Tryd.results87 (An @Tryd.results88 (An @Tryd.results89 (An @Tryd.results90 (An @Tryd.results91 (An @Tryd.results92 (An @Tryd.results93 (An @Tryd.results94 (An @Tryd.results95 (An @Tryd.results96 (An @Tryd.results97 (An @Tryd.results99 (An @Tryd.results100 (An @Tryd.results102 (An @Tryd.results103 @Tryd.results126))))))))))))))))))))))))))))))))))))))))))))))))))))))))))))))))))) := ⟨@Tryd.results34, @Tryd.results35, @Tryd.results36, @Tryd.results37, @Tryd.results38, @Tryd.results39, @Tryd.results40, @Tryd.results41, @Tryd.results42, @Tryd.results43, @Tryd.results44, @Tryd.results45, @Tryd.results46, @Tryd.results47, @Tryd.results48, @Tryd.results49, @Tryd.results50, @Tryd.results51, @Tryd.results52, @Tryd.results53, @Tryd.results54, @Tryd.results55, @Tryd.results56, @Tryd.results57, @Tryd.results58, @Tryd.results59, @Tryd.results60, @Tryd.results61, @Tryd.results62, @Tryd.results63, @Tryd.results64, @Tryd.results65, @Tryd.results66, @Tryd.results67, @Tryd.results68, @Tryd.results70, @Tryd.results71, @Tryd.results72, @Tryd.results73, @Tryd.results74, @Tryd.results75, @Tryd.results76, @Tryd.results77, @Tryd.results78, @Tryd.results79, @Tryd.results80, @Tryd.results81, @Tryd.results82, @Tryd.results83, @Tryd.results84, @Tryd.results85, @Tryd.results86, @Tryd.results87, @Tryd.results88, @Tryd.results89, @Tryd.results90, @Tryd.results91, @Tryd.results92, @Tryd.results93, @Tryd.results94, @Tryd.results95, @Tryd.results96, @Tryd.results97, @Tryd.results99, @Tryd.results100, @Tryd.results102, @Tryd.results103, @Tryd.results126⟩
theorem tyS : type_of% (An @tyS0 (An @tyS1 (An @tyS2 (An @tyS3 (An @tyS4 @tyS5))))) := ⟨@tyS0, @tyS1, @tyS2, @tyS3, @tyS4, @tyS5⟩
end Go.Proofs.YtgglccpckhpocaaDoor
