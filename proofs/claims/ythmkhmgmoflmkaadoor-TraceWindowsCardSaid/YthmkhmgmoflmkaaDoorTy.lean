/-
Closed facts on the types and functions of this translation.
Conditions: none.
-/
import Derived.Test.YthmkhmgmoflmkaaDoorProg
import Derived.Test.YthmkhmgmoflmkaaDoorVmEq
import Derived.KernelRfl
namespace Go.Proofs.YthmkhmgmoflmkaaDoor
open Go.Vm
set_option maxRecDepth 100000
theorem shp2 : shp Tryd.prog 2 = some (false, 1) := by kernel_rfl
theorem zro2 : zro Tryd.prog 2 = some (.int .i64 0) := by kernel_rfl
theorem shp3 : shp Tryd.prog 3 = some (false, 1) := by kernel_rfl
theorem zro3 : zro Tryd.prog 3 = some (.int .i64 0) := by kernel_rfl
theorem shp4 : shp Tryd.prog 4 = some (false, 1) := by kernel_rfl
theorem zro4 : zro Tryd.prog 4 = some (.bool false) := by kernel_rfl
theorem shp5 : shp Tryd.prog 5 = some (false, 1) := by kernel_rfl
theorem zro5 : zro Tryd.prog 5 = some (.int .u8 0) := by kernel_rfl
theorem shp6 : shp Tryd.prog 6 = some (false, 1) := by kernel_rfl
theorem zro6 : zro Tryd.prog 6 = some (.int .u8 0) := by kernel_rfl
theorem shp7 : shp Tryd.prog 7 = some (true, 4) := by kernel_rfl
theorem fld7n0 : fld Tryd.prog 7 0 = some (0, false, 1) := by kernel_rfl
theorem fld7n1 : fld Tryd.prog 7 1 = some (1, false, 1) := by kernel_rfl
theorem fld7n2 : fld Tryd.prog 7 2 = some (2, false, 1) := by kernel_rfl
theorem fld7n3 : fld Tryd.prog 7 3 = some (3, false, 1) := by kernel_rfl
theorem bok7 : bldOk Tryd.prog 7 = true := by kernel_rfl
theorem zro7 : zro Tryd.prog 7 = some (.agg #[.int .i64 0, .int .i64 0, .bool false, .int .u8 0]) := by kernel_rfl
theorem shp8 : shp Tryd.prog 8 = some (true, 4) := by kernel_rfl
theorem fld8n0 : fld Tryd.prog 8 0 = some (0, false, 1) := by kernel_rfl
theorem fld8n1 : fld Tryd.prog 8 1 = some (1, false, 1) := by kernel_rfl
theorem fld8n2 : fld Tryd.prog 8 2 = some (2, false, 1) := by kernel_rfl
theorem fld8n3 : fld Tryd.prog 8 3 = some (3, false, 1) := by kernel_rfl
theorem bok8 : bldOk Tryd.prog 8 = true := by kernel_rfl
theorem zro8 : zro Tryd.prog 8 = some (.agg #[.int .i64 0, .int .i64 0, .bool false, .int .u8 0]) := by kernel_rfl
theorem shp9 : shp Tryd.prog 9 = some (false, 1) := by kernel_rfl
theorem zro9 : zro Tryd.prog 9 = some (.string ⟨#[]⟩) := by kernel_rfl
theorem shp10 : shp Tryd.prog 10 = some (false, 1) := by kernel_rfl
theorem zro10 : zro Tryd.prog 10 = some (.string ⟨#[]⟩) := by kernel_rfl
theorem shp11 : shp Tryd.prog 11 = some (false, 1) := by kernel_rfl
theorem zro11 : zro Tryd.prog 11 = some (.string ⟨#[]⟩) := by kernel_rfl
theorem shp12 : shp Tryd.prog 12 = some (false, 1) := by kernel_rfl
theorem zro12 : zro Tryd.prog 12 = some (.int .u64 0) := by kernel_rfl
theorem shp13 : shp Tryd.prog 13 = some (true, 2) := by kernel_rfl
theorem fld13n0 : fld Tryd.prog 13 0 = some (0, false, 1) := by kernel_rfl
theorem fld13n1 : fld Tryd.prog 13 1 = some (1, false, 1) := by kernel_rfl
theorem bok13 : bldOk Tryd.prog 13 = true := by kernel_rfl
theorem zro13 : zro Tryd.prog 13 = some (.agg #[.string ⟨#[]⟩, .int .u64 0]) := by kernel_rfl
theorem shp14 : shp Tryd.prog 14 = some (true, 2) := by kernel_rfl
theorem fld14n0 : fld Tryd.prog 14 0 = some (0, false, 1) := by kernel_rfl
theorem fld14n1 : fld Tryd.prog 14 1 = some (1, false, 1) := by kernel_rfl
theorem bok14 : bldOk Tryd.prog 14 = true := by kernel_rfl
theorem zro14 : zro Tryd.prog 14 = some (.agg #[.string ⟨#[]⟩, .int .u64 0]) := by kernel_rfl
theorem shp15 : shp Tryd.prog 15 = some (false, 1) := by kernel_rfl
theorem zro15 : zro Tryd.prog 15 = some (.pointer none) := by kernel_rfl
theorem shp16 : shp Tryd.prog 16 = some (false, 1) := by kernel_rfl
theorem zro16 : zro Tryd.prog 16 = some (.pointer none) := by kernel_rfl
theorem shp17 : shp Tryd.prog 17 = some (false, 1) := by kernel_rfl
theorem zro17 : zro Tryd.prog 17 = some (.pointer none) := by kernel_rfl
theorem shp18 : shp Tryd.prog 18 = some (true, 1) := by kernel_rfl
theorem fld18n0 : fld Tryd.prog 18 0 = some (0, false, 1) := by kernel_rfl
theorem bok18 : bldOk Tryd.prog 18 = true := by kernel_rfl
theorem zro18 : zro Tryd.prog 18 = some (.agg #[.pointer none]) := by kernel_rfl
theorem shp19 : shp Tryd.prog 19 = some (true, 1) := by kernel_rfl
theorem fld19n0 : fld Tryd.prog 19 0 = some (0, false, 1) := by kernel_rfl
theorem bok19 : bldOk Tryd.prog 19 = true := by kernel_rfl
theorem zro19 : zro Tryd.prog 19 = some (.agg #[.pointer none]) := by kernel_rfl
theorem shp20 : shp Tryd.prog 20 = some (false, 1) := by kernel_rfl
theorem zro20 : zro Tryd.prog 20 = some (.nilIface) := by kernel_rfl
theorem shp21 : shp Tryd.prog 21 = some (false, 1) := by kernel_rfl
theorem zro21 : zro Tryd.prog 21 = some (.int .i32 0) := by kernel_rfl
theorem shp22 : shp Tryd.prog 22 = some (false, 1) := by kernel_rfl
theorem zro22 : zro Tryd.prog 22 = some (.slice none 0 0) := by kernel_rfl
theorem slc22 : slc Tryd.prog 22 = some (27, 2, 24) := by kernel_rfl
theorem shp23 : shp Tryd.prog 23 = some (true, 2) := by kernel_rfl
theorem fld23n0 : fld Tryd.prog 23 0 = some (0, false, 1) := by kernel_rfl
theorem fld23n1 : fld Tryd.prog 23 1 = some (1, false, 1) := by kernel_rfl
theorem bok23 : bldOk Tryd.prog 23 = true := by kernel_rfl
theorem sih23 : Tryd.prog.stoodInHeld 23 = false := by kernel_rfl
theorem egt23 : Tryd.prog.eqGuardType Tryd.prog.depth 23 = false := by kernel_rfl
theorem zro23 : zro Tryd.prog 23 = some (.agg #[.int .i64 0, .slice none 0 0]) := by kernel_rfl
theorem shp24 : shp Tryd.prog 24 = some (true, 2) := by kernel_rfl
theorem fld24n0 : fld Tryd.prog 24 0 = some (0, false, 1) := by kernel_rfl
theorem fld24n1 : fld Tryd.prog 24 1 = some (1, false, 1) := by kernel_rfl
theorem bok24 : bldOk Tryd.prog 24 = true := by kernel_rfl
theorem sih24 : Tryd.prog.stoodInHeld 24 = false := by kernel_rfl
theorem egt24 : Tryd.prog.eqGuardType Tryd.prog.depth 24 = false := by kernel_rfl
theorem zro24 : zro Tryd.prog 24 = some (.agg #[.int .i64 0, .slice none 0 0]) := by kernel_rfl
theorem shp26 : shp Tryd.prog 26 = some (true, 2) := by kernel_rfl
theorem fld26n0 : fld Tryd.prog 26 0 = some (0, false, 1) := by kernel_rfl
theorem fld26n1 : fld Tryd.prog 26 1 = some (1, false, 1) := by kernel_rfl
theorem bok26 : bldOk Tryd.prog 26 = true := by kernel_rfl
theorem sih26 : Tryd.prog.stoodInHeld 26 = false := by kernel_rfl
theorem egt26 : Tryd.prog.eqGuardType Tryd.prog.depth 26 = false := by kernel_rfl
theorem zro26 : zro Tryd.prog 26 = some (.agg #[.int .i64 0, .string ⟨#[]⟩]) := by kernel_rfl
theorem shp27 : shp Tryd.prog 27 = some (true, 2) := by kernel_rfl
theorem fld27n0 : fld Tryd.prog 27 0 = some (0, false, 1) := by kernel_rfl
theorem fld27n1 : fld Tryd.prog 27 1 = some (1, false, 1) := by kernel_rfl
theorem bok27 : bldOk Tryd.prog 27 = true := by kernel_rfl
theorem sih27 : Tryd.prog.stoodInHeld 27 = false := by kernel_rfl
theorem egt27 : Tryd.prog.eqGuardType Tryd.prog.depth 27 = false := by kernel_rfl
theorem zro27 : zro Tryd.prog 27 = some (.agg #[.int .i64 0, .string ⟨#[]⟩]) := by kernel_rfl
theorem shp30 : shp Tryd.prog 30 = some (false, 1) := by kernel_rfl
theorem zro30 : zro Tryd.prog 30 = some (.int .u16 0) := by kernel_rfl
theorem shp31 : shp Tryd.prog 31 = some (false, 1) := by kernel_rfl
theorem zro31 : zro Tryd.prog 31 = some (.pointer none) := by kernel_rfl
theorem shp32 : shp Tryd.prog 32 = some (false, 1) := by kernel_rfl
theorem zro32 : zro Tryd.prog 32 = some (.int .i64 0) := by kernel_rfl
theorem shp38 : shp Tryd.prog 38 = some (false, 1) := by kernel_rfl
theorem zro38 : zro Tryd.prog 38 = some (.slice none 0 0) := by kernel_rfl
theorem slc38 : slc Tryd.prog 38 = some (43, 4, 48) := by kernel_rfl
theorem shp39 : shp Tryd.prog 39 = some (false, 1) := by kernel_rfl
theorem zro39 : zro Tryd.prog 39 = some (.pointer none) := by kernel_rfl
theorem shp42 : shp Tryd.prog 42 = some (true, 4) := by kernel_rfl
theorem fld42n0 : fld Tryd.prog 42 0 = some (0, false, 1) := by kernel_rfl
theorem fld42n1 : fld Tryd.prog 42 1 = some (1, false, 1) := by kernel_rfl
theorem fld42n2 : fld Tryd.prog 42 2 = some (2, false, 1) := by kernel_rfl
theorem fld42n3 : fld Tryd.prog 42 3 = some (3, false, 1) := by kernel_rfl
theorem bok42 : bldOk Tryd.prog 42 = true := by kernel_rfl
theorem sih42 : Tryd.prog.stoodInHeld 42 = false := by kernel_rfl
theorem egt42 : Tryd.prog.eqGuardType Tryd.prog.depth 42 = false := by kernel_rfl
theorem zro42 : zro Tryd.prog 42 = some (.agg #[.int .i64 0, .string ⟨#[]⟩, .string ⟨#[]⟩, .bool false]) := by kernel_rfl
theorem shp43 : shp Tryd.prog 43 = some (true, 4) := by kernel_rfl
theorem fld43n0 : fld Tryd.prog 43 0 = some (0, false, 1) := by kernel_rfl
theorem fld43n1 : fld Tryd.prog 43 1 = some (1, false, 1) := by kernel_rfl
theorem fld43n2 : fld Tryd.prog 43 2 = some (2, false, 1) := by kernel_rfl
theorem fld43n3 : fld Tryd.prog 43 3 = some (3, false, 1) := by kernel_rfl
theorem bok43 : bldOk Tryd.prog 43 = true := by kernel_rfl
theorem sih43 : Tryd.prog.stoodInHeld 43 = false := by kernel_rfl
theorem egt43 : Tryd.prog.eqGuardType Tryd.prog.depth 43 = false := by kernel_rfl
theorem zro43 : zro Tryd.prog 43 = some (.agg #[.int .i64 0, .string ⟨#[]⟩, .string ⟨#[]⟩, .bool false]) := by kernel_rfl
theorem shp52 : shp Tryd.prog 52 = some (false, 1) := by kernel_rfl
theorem zro52 : zro Tryd.prog 52 = some (.slice none 0 0) := by kernel_rfl
theorem slc52 : slc Tryd.prog 52 = some (3, 1, 8) := by kernel_rfl
theorem shp53 : shp Tryd.prog 53 = some (false, 1) := by kernel_rfl
theorem zro53 : zro Tryd.prog 53 = some (.pointer none) := by kernel_rfl
theorem shp56 : shp Tryd.prog 56 = some (false, 1) := by kernel_rfl
theorem zro56 : zro Tryd.prog 56 = some (.pointer none) := by kernel_rfl
theorem shp64 : shp Tryd.prog 64 = some (false, 1) := by kernel_rfl
theorem zro64 : zro Tryd.prog 64 = some (.map none) := by kernel_rfl
theorem shp65 : shp Tryd.prog 65 = some (false, 1) := by kernel_rfl
theorem zro65 : zro Tryd.prog 65 = some (.slice none 0 0) := by kernel_rfl
theorem slc65 : slc Tryd.prog 65 = some (9, 1, 16) := by kernel_rfl
theorem shp66 : shp Tryd.prog 66 = some (true, 3) := by kernel_rfl
theorem fld66n0 : fld Tryd.prog 66 0 = some (0, false, 1) := by kernel_rfl
theorem fld66n1 : fld Tryd.prog 66 1 = some (1, false, 1) := by kernel_rfl
theorem fld66n2 : fld Tryd.prog 66 2 = some (2, false, 1) := by kernel_rfl
theorem bok66 : bldOk Tryd.prog 66 = true := by kernel_rfl
theorem sih66 : Tryd.prog.stoodInHeld 66 = false := by kernel_rfl
theorem egt66 : Tryd.prog.eqGuardType Tryd.prog.depth 66 = false := by kernel_rfl
theorem zro66 : zro Tryd.prog 66 = some (.agg #[.int .i64 0, .map none, .slice none 0 0]) := by kernel_rfl
theorem shp67 : shp Tryd.prog 67 = some (true, 3) := by kernel_rfl
theorem fld67n0 : fld Tryd.prog 67 0 = some (0, false, 1) := by kernel_rfl
theorem fld67n1 : fld Tryd.prog 67 1 = some (1, false, 1) := by kernel_rfl
theorem fld67n2 : fld Tryd.prog 67 2 = some (2, false, 1) := by kernel_rfl
theorem bok67 : bldOk Tryd.prog 67 = true := by kernel_rfl
theorem sih67 : Tryd.prog.stoodInHeld 67 = false := by kernel_rfl
theorem egt67 : Tryd.prog.eqGuardType Tryd.prog.depth 67 = false := by kernel_rfl
theorem zro67 : zro Tryd.prog 67 = some (.agg #[.int .i64 0, .map none, .slice none 0 0]) := by kernel_rfl
theorem shp68 : shp Tryd.prog 68 = some (true, 2) := by kernel_rfl
theorem fld68n0 : fld Tryd.prog 68 0 = some (0, false, 1) := by kernel_rfl
theorem fld68n1 : fld Tryd.prog 68 1 = some (1, false, 1) := by kernel_rfl
theorem bok68 : bldOk Tryd.prog 68 = true := by kernel_rfl
theorem sih68 : Tryd.prog.stoodInHeld 68 = false := by kernel_rfl
theorem egt68 : Tryd.prog.eqGuardType Tryd.prog.depth 68 = false := by kernel_rfl
theorem zro68 : zro Tryd.prog 68 = some (.agg #[.string ⟨#[]⟩, .int .i64 0]) := by kernel_rfl
theorem shp69 : shp Tryd.prog 69 = some (true, 2) := by kernel_rfl
theorem fld69n0 : fld Tryd.prog 69 0 = some (0, false, 1) := by kernel_rfl
theorem fld69n1 : fld Tryd.prog 69 1 = some (1, false, 1) := by kernel_rfl
theorem bok69 : bldOk Tryd.prog 69 = true := by kernel_rfl
theorem sih69 : Tryd.prog.stoodInHeld 69 = false := by kernel_rfl
theorem egt69 : Tryd.prog.eqGuardType Tryd.prog.depth 69 = false := by kernel_rfl
theorem zro69 : zro Tryd.prog 69 = some (.agg #[.string ⟨#[]⟩, .int .i64 0]) := by kernel_rfl
theorem shp73 : shp Tryd.prog 73 = some (false, 1) := by kernel_rfl
theorem zro73 : zro Tryd.prog 73 = some (.slice none 0 0) := by kernel_rfl
theorem slc73 : slc Tryd.prog 73 = some (78, 3, 40) := by kernel_rfl
theorem shp74 : shp Tryd.prog 74 = some (true, 2) := by kernel_rfl
theorem fld74n0 : fld Tryd.prog 74 0 = some (0, false, 1) := by kernel_rfl
theorem fld74n1 : fld Tryd.prog 74 1 = some (1, false, 1) := by kernel_rfl
theorem bok74 : bldOk Tryd.prog 74 = true := by kernel_rfl
theorem sih74 : Tryd.prog.stoodInHeld 74 = false := by kernel_rfl
theorem egt74 : Tryd.prog.eqGuardType Tryd.prog.depth 74 = false := by kernel_rfl
theorem zro74 : zro Tryd.prog 74 = some (.agg #[.int .i64 0, .slice none 0 0]) := by kernel_rfl
theorem shp75 : shp Tryd.prog 75 = some (true, 2) := by kernel_rfl
theorem fld75n0 : fld Tryd.prog 75 0 = some (0, false, 1) := by kernel_rfl
theorem fld75n1 : fld Tryd.prog 75 1 = some (1, false, 1) := by kernel_rfl
theorem bok75 : bldOk Tryd.prog 75 = true := by kernel_rfl
theorem sih75 : Tryd.prog.stoodInHeld 75 = false := by kernel_rfl
theorem egt75 : Tryd.prog.eqGuardType Tryd.prog.depth 75 = false := by kernel_rfl
theorem zro75 : zro Tryd.prog 75 = some (.agg #[.int .i64 0, .slice none 0 0]) := by kernel_rfl
theorem shp77 : shp Tryd.prog 77 = some (true, 3) := by kernel_rfl
theorem fld77n0 : fld Tryd.prog 77 0 = some (0, false, 1) := by kernel_rfl
theorem fld77n1 : fld Tryd.prog 77 1 = some (1, false, 1) := by kernel_rfl
theorem fld77n2 : fld Tryd.prog 77 2 = some (2, false, 1) := by kernel_rfl
theorem bok77 : bldOk Tryd.prog 77 = true := by kernel_rfl
theorem sih77 : Tryd.prog.stoodInHeld 77 = false := by kernel_rfl
theorem egt77 : Tryd.prog.eqGuardType Tryd.prog.depth 77 = false := by kernel_rfl
theorem zro77 : zro Tryd.prog 77 = some (.agg #[.string ⟨#[]⟩, .string ⟨#[]⟩, .int .i64 0]) := by kernel_rfl
theorem shp78 : shp Tryd.prog 78 = some (true, 3) := by kernel_rfl
theorem fld78n0 : fld Tryd.prog 78 0 = some (0, false, 1) := by kernel_rfl
theorem fld78n1 : fld Tryd.prog 78 1 = some (1, false, 1) := by kernel_rfl
theorem fld78n2 : fld Tryd.prog 78 2 = some (2, false, 1) := by kernel_rfl
theorem bok78 : bldOk Tryd.prog 78 = true := by kernel_rfl
theorem sih78 : Tryd.prog.stoodInHeld 78 = false := by kernel_rfl
theorem egt78 : Tryd.prog.eqGuardType Tryd.prog.depth 78 = false := by kernel_rfl
theorem zro78 : zro Tryd.prog 78 = some (.agg #[.string ⟨#[]⟩, .string ⟨#[]⟩, .int .i64 0]) := by kernel_rfl
theorem shp81 : shp Tryd.prog 81 = some (true, 2) := by kernel_rfl
theorem fld81n0 : fld Tryd.prog 81 0 = some (0, false, 1) := by kernel_rfl
theorem fld81n1 : fld Tryd.prog 81 1 = some (1, false, 1) := by kernel_rfl
theorem bok81 : bldOk Tryd.prog 81 = true := by kernel_rfl
theorem sih81 : Tryd.prog.stoodInHeld 81 = false := by kernel_rfl
theorem egt81 : Tryd.prog.eqGuardType Tryd.prog.depth 81 = false := by kernel_rfl
theorem zro81 : zro Tryd.prog 81 = some (.agg #[.int .i64 0, .int .i64 0]) := by kernel_rfl
theorem shp82 : shp Tryd.prog 82 = some (true, 2) := by kernel_rfl
theorem fld82n0 : fld Tryd.prog 82 0 = some (0, false, 1) := by kernel_rfl
theorem fld82n1 : fld Tryd.prog 82 1 = some (1, false, 1) := by kernel_rfl
theorem bok82 : bldOk Tryd.prog 82 = true := by kernel_rfl
theorem sih82 : Tryd.prog.stoodInHeld 82 = false := by kernel_rfl
theorem egt82 : Tryd.prog.eqGuardType Tryd.prog.depth 82 = false := by kernel_rfl
theorem zro82 : zro Tryd.prog 82 = some (.agg #[.int .i64 0, .int .i64 0]) := by kernel_rfl
theorem shp83 : shp Tryd.prog 83 = some (true, 2) := by kernel_rfl
theorem fld83n0 : fld Tryd.prog 83 0 = some (0, false, 1) := by kernel_rfl
theorem fld83n1 : fld Tryd.prog 83 1 = some (1, false, 1) := by kernel_rfl
theorem bok83 : bldOk Tryd.prog 83 = true := by kernel_rfl
theorem sih83 : Tryd.prog.stoodInHeld 83 = false := by kernel_rfl
theorem egt83 : Tryd.prog.eqGuardType Tryd.prog.depth 83 = false := by kernel_rfl
theorem zro83 : zro Tryd.prog 83 = some (.agg #[.int .i64 0, .int .i64 0]) := by kernel_rfl
theorem shp84 : shp Tryd.prog 84 = some (true, 2) := by kernel_rfl
theorem fld84n0 : fld Tryd.prog 84 0 = some (0, false, 1) := by kernel_rfl
theorem fld84n1 : fld Tryd.prog 84 1 = some (1, false, 1) := by kernel_rfl
theorem bok84 : bldOk Tryd.prog 84 = true := by kernel_rfl
theorem sih84 : Tryd.prog.stoodInHeld 84 = false := by kernel_rfl
theorem egt84 : Tryd.prog.eqGuardType Tryd.prog.depth 84 = false := by kernel_rfl
theorem zro84 : zro Tryd.prog 84 = some (.agg #[.int .i64 0, .int .i64 0]) := by kernel_rfl
theorem shp91 : shp Tryd.prog 91 = some (false, 1) := by kernel_rfl
theorem zro91 : zro Tryd.prog 91 = some (.int .u64 0) := by kernel_rfl
theorem shp94 : shp Tryd.prog 94 = some (false, 1) := by kernel_rfl
theorem zro94 : zro Tryd.prog 94 = some (.int .u64 0) := by kernel_rfl
theorem shp98 : shp Tryd.prog 98 = some (false, 1) := by kernel_rfl
theorem zro98 : zro Tryd.prog 98 = some (.pointer none) := by kernel_rfl
theorem shp99 : shp Tryd.prog 99 = some (false, 1) := by kernel_rfl
theorem zro99 : zro Tryd.prog 99 = some (.slice none 0 0) := by kernel_rfl
theorem slc99 : slc Tryd.prog 99 = some (5, 1, 1) := by kernel_rfl
theorem shp100 : shp Tryd.prog 100 = some (true, 2) := by kernel_rfl
theorem fld100n0 : fld Tryd.prog 100 0 = some (0, false, 1) := by kernel_rfl
theorem fld100n1 : fld Tryd.prog 100 1 = some (1, false, 1) := by kernel_rfl
theorem bok100 : bldOk Tryd.prog 100 = true := by kernel_rfl
theorem zro100 : zro Tryd.prog 100 = some (.agg #[.pointer none, .slice none 0 0]) := by kernel_rfl
theorem shp101 : shp Tryd.prog 101 = some (true, 2) := by kernel_rfl
theorem fld101n0 : fld Tryd.prog 101 0 = some (0, false, 1) := by kernel_rfl
theorem fld101n1 : fld Tryd.prog 101 1 = some (1, false, 1) := by kernel_rfl
theorem bok101 : bldOk Tryd.prog 101 = true := by kernel_rfl
theorem zro101 : zro Tryd.prog 101 = some (.agg #[.pointer none, .slice none 0 0]) := by kernel_rfl
theorem shp103 : shp Tryd.prog 103 = some (false, 1) := by kernel_rfl
theorem zro103 : zro Tryd.prog 103 = some (.nilIface) := by kernel_rfl
theorem shp104 : shp Tryd.prog 104 = some (false, 1) := by kernel_rfl
theorem zro104 : zro Tryd.prog 104 = some (.nilIface) := by kernel_rfl
theorem shp109 : shp Tryd.prog 109 = some (false, 1) := by kernel_rfl
theorem zro109 : zro Tryd.prog 109 = some (.int .u32 0) := by kernel_rfl
theorem shp114 : shp Tryd.prog 114 = some (false, 1) := by kernel_rfl
theorem zro114 : zro Tryd.prog 114 = some (.pointer none) := by kernel_rfl
theorem shp115 : shp Tryd.prog 115 = some (true, 24) := by kernel_rfl
theorem bok115 : bldOk Tryd.prog 115 = false := by kernel_rfl
theorem zro115 : zro Tryd.prog 115 = some (.agg #[.int .u8 0, .int .u8 0, .int .u8 0, .int .u8 0, .int .u8 0, .int .u8 0, .int .u8 0, .int .u8 0, .int .u8 0, .int .u8 0, .int .u8 0, .int .u8 0, .int .u8 0, .int .u8 0, .int .u8 0, .int .u8 0, .int .u8 0, .int .u8 0, .int .u8 0, .int .u8 0, .int .u8 0, .int .u8 0, .int .u8 0, .int .u8 0]) := by kernel_rfl
theorem shp120 : shp Tryd.prog 120 = some (false, 1) := by kernel_rfl
theorem zro120 : zro Tryd.prog 120 = some (.pointer none) := by kernel_rfl
theorem shp124 : shp Tryd.prog 124 = some (true, 20) := by kernel_rfl
theorem bok124 : bldOk Tryd.prog 124 = false := by kernel_rfl
theorem zro124 : zro Tryd.prog 124 = some (.agg #[.int .u64 0, .int .u64 0, .int .u64 0, .int .u64 0, .int .u64 0, .int .u64 0, .int .u64 0, .int .u64 0, .int .u64 0, .int .u64 0, .int .u64 0, .int .u64 0, .int .u64 0, .int .u64 0, .int .u64 0, .int .u64 0, .int .u64 0, .int .u64 0, .int .u64 0, .int .u64 0]) := by kernel_rfl
theorem shp125 : shp Tryd.prog 125 = some (true, 65) := by kernel_rfl
theorem bok125 : bldOk Tryd.prog 125 = false := by kernel_rfl
theorem zro125 : zro Tryd.prog 125 = some (.agg #[.int .u8 0, .int .u8 0, .int .u8 0, .int .u8 0, .int .u8 0, .int .u8 0, .int .u8 0, .int .u8 0, .int .u8 0, .int .u8 0, .int .u8 0, .int .u8 0, .int .u8 0, .int .u8 0, .int .u8 0, .int .u8 0, .int .u8 0, .int .u8 0, .int .u8 0, .int .u8 0, .int .u8 0, .int .u8 0, .int .u8 0, .int .u8 0, .int .u8 0, .int .u8 0, .int .u8 0, .int .u8 0, .int .u8 0, .int .u8 0, .int .u8 0, .int .u8 0, .int .u8 0, .int .u8 0, .int .u8 0, .int .u8 0, .int .u8 0, .int .u8 0, .int .u8 0, .int .u8 0, .int .u8 0, .int .u8 0, .int .u8 0, .int .u8 0, .int .u8 0, .int .u8 0, .int .u8 0, .int .u8 0, .int .u8 0, .int .u8 0, .int .u8 0, .int .u8 0, .int .u8 0, .int .u8 0, .int .u8 0, .int .u8 0, .int .u8 0, .int .u8 0, .int .u8 0, .int .u8 0, .int .u8 0, .int .u8 0, .int .u8 0, .int .u8 0, .int .u8 0]) := by kernel_rfl
theorem shp128 : shp Tryd.prog 128 = some (true, 32) := by kernel_rfl
theorem bok128 : bldOk Tryd.prog 128 = false := by kernel_rfl
theorem zro128 : zro Tryd.prog 128 = some (.agg #[.int .u8 0, .int .u8 0, .int .u8 0, .int .u8 0, .int .u8 0, .int .u8 0, .int .u8 0, .int .u8 0, .int .u8 0, .int .u8 0, .int .u8 0, .int .u8 0, .int .u8 0, .int .u8 0, .int .u8 0, .int .u8 0, .int .u8 0, .int .u8 0, .int .u8 0, .int .u8 0, .int .u8 0, .int .u8 0, .int .u8 0, .int .u8 0, .int .u8 0, .int .u8 0, .int .u8 0, .int .u8 0, .int .u8 0, .int .u8 0, .int .u8 0, .int .u8 0]) := by kernel_rfl
theorem shp129 : shp Tryd.prog 129 = some (true, 64) := by kernel_rfl
theorem bok129 : bldOk Tryd.prog 129 = false := by kernel_rfl
theorem zro129 : zro Tryd.prog 129 = some (.agg #[.int .u8 0, .int .u8 0, .int .u8 0, .int .u8 0, .int .u8 0, .int .u8 0, .int .u8 0, .int .u8 0, .int .u8 0, .int .u8 0, .int .u8 0, .int .u8 0, .int .u8 0, .int .u8 0, .int .u8 0, .int .u8 0, .int .u8 0, .int .u8 0, .int .u8 0, .int .u8 0, .int .u8 0, .int .u8 0, .int .u8 0, .int .u8 0, .int .u8 0, .int .u8 0, .int .u8 0, .int .u8 0, .int .u8 0, .int .u8 0, .int .u8 0, .int .u8 0, .int .u8 0, .int .u8 0, .int .u8 0, .int .u8 0, .int .u8 0, .int .u8 0, .int .u8 0, .int .u8 0, .int .u8 0, .int .u8 0, .int .u8 0, .int .u8 0, .int .u8 0, .int .u8 0, .int .u8 0, .int .u8 0, .int .u8 0, .int .u8 0, .int .u8 0, .int .u8 0, .int .u8 0, .int .u8 0, .int .u8 0, .int .u8 0, .int .u8 0, .int .u8 0, .int .u8 0, .int .u8 0, .int .u8 0, .int .u8 0, .int .u8 0, .int .u8 0]) := by kernel_rfl
theorem shp130 : shp Tryd.prog 130 = some (true, 4) := by kernel_rfl
theorem fld130n0 : fld Tryd.prog 130 0 = some (0, false, 1) := by kernel_rfl
theorem fld130n1 : fld Tryd.prog 130 1 = some (1, false, 1) := by kernel_rfl
theorem fld130n2 : fld Tryd.prog 130 2 = some (2, false, 1) := by kernel_rfl
theorem fld130n3 : fld Tryd.prog 130 3 = some (3, false, 1) := by kernel_rfl
theorem bok130 : bldOk Tryd.prog 130 = true := by kernel_rfl
theorem zro130 : zro Tryd.prog 130 = some (.agg #[.pointer none, .pointer none, .pointer none, .string ⟨#[]⟩]) := by kernel_rfl
theorem shp131 : shp Tryd.prog 131 = some (true, 4) := by kernel_rfl
theorem fld131n0 : fld Tryd.prog 131 0 = some (0, false, 1) := by kernel_rfl
theorem fld131n1 : fld Tryd.prog 131 1 = some (1, false, 1) := by kernel_rfl
theorem fld131n2 : fld Tryd.prog 131 2 = some (2, false, 1) := by kernel_rfl
theorem fld131n3 : fld Tryd.prog 131 3 = some (3, false, 1) := by kernel_rfl
theorem bok131 : bldOk Tryd.prog 131 = true := by kernel_rfl
theorem zro131 : zro Tryd.prog 131 = some (.agg #[.pointer none, .pointer none, .pointer none, .string ⟨#[]⟩]) := by kernel_rfl
theorem shp132 : shp Tryd.prog 132 = some (true, 0) := by kernel_rfl
theorem bok132 : bldOk Tryd.prog 132 = false := by kernel_rfl
theorem zro132 : zro Tryd.prog 132 = some (.agg #[]) := by kernel_rfl
theorem shp133 : shp Tryd.prog 133 = some (true, 0) := by kernel_rfl
theorem fld133n0 : fld Tryd.prog 133 0 = some (0, true, 0) := by kernel_rfl
theorem bok133 : bldOk Tryd.prog 133 = true := by kernel_rfl
theorem zro133 : zro Tryd.prog 133 = some (.agg #[]) := by kernel_rfl
theorem shp134 : shp Tryd.prog 134 = some (true, 0) := by kernel_rfl
theorem fld134n0 : fld Tryd.prog 134 0 = some (0, true, 0) := by kernel_rfl
theorem bok134 : bldOk Tryd.prog 134 = true := by kernel_rfl
theorem zro134 : zro Tryd.prog 134 = some (.agg #[]) := by kernel_rfl
theorem shp135 : shp Tryd.prog 135 = some (false, 1) := by kernel_rfl
theorem zro135 : zro Tryd.prog 135 = some (.int .u8 0) := by kernel_rfl
theorem shp136 : shp Tryd.prog 136 = some (false, 1) := by kernel_rfl
theorem zro136 : zro Tryd.prog 136 = some (.int .u8 0) := by kernel_rfl
theorem shp138 : shp Tryd.prog 138 = some (false, 1) := by kernel_rfl
theorem zro138 : zro Tryd.prog 138 = some (.int .i32 0) := by kernel_rfl
theorem shp139 : shp Tryd.prog 139 = some (false, 1) := by kernel_rfl
theorem zro139 : zro Tryd.prog 139 = some (.int .i32 0) := by kernel_rfl
theorem shp140 : shp Tryd.prog 140 = some (true, 11) := by kernel_rfl
theorem fld140n0 : fld Tryd.prog 140 0 = some (0, false, 1) := by kernel_rfl
theorem fld140n1 : fld Tryd.prog 140 1 = some (1, false, 1) := by kernel_rfl
theorem fld140n2 : fld Tryd.prog 140 2 = some (2, false, 1) := by kernel_rfl
theorem fld140n3 : fld Tryd.prog 140 3 = some (3, false, 1) := by kernel_rfl
theorem fld140n4 : fld Tryd.prog 140 4 = some (4, false, 1) := by kernel_rfl
theorem fld140n5 : fld Tryd.prog 140 5 = some (5, false, 1) := by kernel_rfl
theorem fld140n6 : fld Tryd.prog 140 6 = some (6, false, 1) := by kernel_rfl
theorem fld140n7 : fld Tryd.prog 140 7 = some (7, false, 1) := by kernel_rfl
theorem fld140n8 : fld Tryd.prog 140 8 = some (8, false, 1) := by kernel_rfl
theorem fld140n9 : fld Tryd.prog 140 9 = some (9, false, 1) := by kernel_rfl
theorem fld140n10 : fld Tryd.prog 140 10 = some (10, false, 1) := by kernel_rfl
theorem bok140 : bldOk Tryd.prog 140 = true := by kernel_rfl
theorem zro140 : zro Tryd.prog 140 = some (.agg #[.int .u64 0, .int .u64 0, .int .u32 0, .int .u8 0, .int .u8 0, .int .u8 0, .int .u8 0, .nilFunc, .pointer none, .int .i32 0, .int .i32 0]) := by kernel_rfl
theorem shp141 : shp Tryd.prog 141 = some (true, 11) := by kernel_rfl
theorem fld141n0 : fld Tryd.prog 141 0 = some (0, false, 1) := by kernel_rfl
theorem fld141n1 : fld Tryd.prog 141 1 = some (1, false, 1) := by kernel_rfl
theorem fld141n2 : fld Tryd.prog 141 2 = some (2, false, 1) := by kernel_rfl
theorem fld141n3 : fld Tryd.prog 141 3 = some (3, false, 1) := by kernel_rfl
theorem fld141n4 : fld Tryd.prog 141 4 = some (4, false, 1) := by kernel_rfl
theorem fld141n5 : fld Tryd.prog 141 5 = some (5, false, 1) := by kernel_rfl
theorem fld141n6 : fld Tryd.prog 141 6 = some (6, false, 1) := by kernel_rfl
theorem fld141n7 : fld Tryd.prog 141 7 = some (7, false, 1) := by kernel_rfl
theorem fld141n8 : fld Tryd.prog 141 8 = some (8, false, 1) := by kernel_rfl
theorem fld141n9 : fld Tryd.prog 141 9 = some (9, false, 1) := by kernel_rfl
theorem fld141n10 : fld Tryd.prog 141 10 = some (10, false, 1) := by kernel_rfl
theorem bok141 : bldOk Tryd.prog 141 = true := by kernel_rfl
theorem zro141 : zro Tryd.prog 141 = some (.agg #[.int .u64 0, .int .u64 0, .int .u32 0, .int .u8 0, .int .u8 0, .int .u8 0, .int .u8 0, .nilFunc, .pointer none, .int .i32 0, .int .i32 0]) := by kernel_rfl
theorem cal2 : callable Tryd.prog 2 = true := by kernel_rfl
theorem cal3 : callable Tryd.prog 3 = true := by kernel_rfl
theorem cal4 : callable Tryd.prog 4 = true := by kernel_rfl
theorem cal5 : callable Tryd.prog 5 = true := by kernel_rfl
theorem cal6 : callable Tryd.prog 6 = true := by kernel_rfl
theorem cal7 : callable Tryd.prog 7 = true := by kernel_rfl
theorem cal8 : callable Tryd.prog 8 = true := by kernel_rfl
theorem cal9 : callable Tryd.prog 9 = true := by kernel_rfl
theorem cal10 : callable Tryd.prog 10 = true := by kernel_rfl
theorem cal11 : callable Tryd.prog 11 = true := by kernel_rfl
theorem cal12 : callable Tryd.prog 12 = true := by kernel_rfl
theorem cal13 : callable Tryd.prog 13 = true := by kernel_rfl
theorem cal14 : callable Tryd.prog 14 = true := by kernel_rfl
theorem cal15 : callable Tryd.prog 15 = true := by kernel_rfl
theorem cal16 : callable Tryd.prog 16 = true := by kernel_rfl
theorem cal17 : callable Tryd.prog 17 = true := by kernel_rfl
theorem cal18 : callable Tryd.prog 18 = true := by kernel_rfl
theorem cal19 : callable Tryd.prog 19 = true := by kernel_rfl
theorem cal20 : callable Tryd.prog 20 = true := by kernel_rfl
theorem cal21 : callable Tryd.prog 21 = true := by kernel_rfl
theorem cal22 : callable Tryd.prog 22 = true := by kernel_rfl
theorem cal23 : callable Tryd.prog 23 = true := by kernel_rfl
theorem cal24 : callable Tryd.prog 24 = true := by kernel_rfl
theorem cal25 : callable Tryd.prog 25 = true := by kernel_rfl
theorem cal26 : callable Tryd.prog 26 = true := by kernel_rfl
theorem cal27 : callable Tryd.prog 27 = true := by kernel_rfl
theorem cal28 : callable Tryd.prog 28 = true := by kernel_rfl
theorem cal29 : callable Tryd.prog 29 = true := by kernel_rfl
theorem cal30 : callable Tryd.prog 30 = true := by kernel_rfl
theorem cal31 : callable Tryd.prog 31 = true := by kernel_rfl
theorem cal32 : callable Tryd.prog 32 = true := by kernel_rfl
theorem cal33 : callable Tryd.prog 33 = true := by kernel_rfl
theorem cal34 : callable Tryd.prog 34 = true := by kernel_rfl
theorem cal35 : callable Tryd.prog 35 = true := by kernel_rfl
theorem cal36 : callable Tryd.prog 36 = true := by kernel_rfl
theorem cal37 : callable Tryd.prog 37 = true := by kernel_rfl
theorem cal38 : callable Tryd.prog 38 = true := by kernel_rfl
theorem cal39 : callable Tryd.prog 39 = true := by kernel_rfl
theorem cal40 : callable Tryd.prog 40 = true := by kernel_rfl
theorem cal41 : callable Tryd.prog 41 = true := by kernel_rfl
theorem cal42 : callable Tryd.prog 42 = true := by kernel_rfl
theorem cal43 : callable Tryd.prog 43 = true := by kernel_rfl
theorem cal44 : callable Tryd.prog 44 = true := by kernel_rfl
theorem cal45 : callable Tryd.prog 45 = true := by kernel_rfl
theorem cal46 : callable Tryd.prog 46 = true := by kernel_rfl
theorem cal47 : callable Tryd.prog 47 = true := by kernel_rfl
theorem cal48 : callable Tryd.prog 48 = true := by kernel_rfl
theorem cal49 : callable Tryd.prog 49 = true := by kernel_rfl
theorem cal50 : callable Tryd.prog 50 = true := by kernel_rfl
theorem cal51 : callable Tryd.prog 51 = true := by kernel_rfl
theorem cal52 : callable Tryd.prog 52 = true := by kernel_rfl
theorem cal53 : callable Tryd.prog 53 = true := by kernel_rfl
theorem cal54 : callable Tryd.prog 54 = true := by kernel_rfl
theorem cal55 : callable Tryd.prog 55 = true := by kernel_rfl
theorem cal56 : callable Tryd.prog 56 = true := by kernel_rfl
theorem cal57 : callable Tryd.prog 57 = true := by kernel_rfl
theorem cal58 : callable Tryd.prog 58 = true := by kernel_rfl
theorem cal59 : callable Tryd.prog 59 = true := by kernel_rfl
theorem cal60 : callable Tryd.prog 60 = true := by kernel_rfl
theorem cal61 : callable Tryd.prog 61 = true := by kernel_rfl
theorem cal62 : callable Tryd.prog 62 = true := by kernel_rfl
theorem cal65 : callable Tryd.prog 65 = true := by kernel_rfl
theorem cal66 : callable Tryd.prog 66 = true := by kernel_rfl
theorem cal67 : callable Tryd.prog 67 = true := by kernel_rfl
theorem cal68 : callable Tryd.prog 68 = true := by kernel_rfl
theorem cal69 : callable Tryd.prog 69 = true := by kernel_rfl
theorem cal70 : callable Tryd.prog 70 = true := by kernel_rfl
theorem cal71 : callable Tryd.prog 71 = true := by kernel_rfl
theorem cal94 : callable Tryd.prog 94 = true := by kernel_rfl
theorem cal0 : callable Tryd.prog 0 = false := by kernel_rfl
theorem cal1 : callable Tryd.prog 1 = false := by kernel_rfl
theorem cal63 : callable Tryd.prog 63 = false := by kernel_rfl
theorem cal64 : callable Tryd.prog 64 = false := by kernel_rfl
theorem cal72 : callable Tryd.prog 72 = false := by kernel_rfl
theorem cal73 : callable Tryd.prog 73 = false := by kernel_rfl
theorem cal74 : callable Tryd.prog 74 = false := by kernel_rfl
theorem cal75 : callable Tryd.prog 75 = false := by kernel_rfl
theorem cal76 : callable Tryd.prog 76 = false := by kernel_rfl
theorem cal77 : callable Tryd.prog 77 = false := by kernel_rfl
theorem cal78 : callable Tryd.prog 78 = false := by kernel_rfl
theorem cal79 : callable Tryd.prog 79 = false := by kernel_rfl
theorem cal80 : callable Tryd.prog 80 = false := by kernel_rfl
theorem cal81 : callable Tryd.prog 81 = false := by kernel_rfl
theorem cal82 : callable Tryd.prog 82 = false := by kernel_rfl
theorem cal83 : callable Tryd.prog 83 = false := by kernel_rfl
theorem cal84 : callable Tryd.prog 84 = false := by kernel_rfl
theorem cal85 : callable Tryd.prog 85 = false := by kernel_rfl
theorem cal86 : callable Tryd.prog 86 = false := by kernel_rfl
theorem cal87 : callable Tryd.prog 87 = false := by kernel_rfl
theorem cal88 : callable Tryd.prog 88 = false := by kernel_rfl
theorem cal89 : callable Tryd.prog 89 = false := by kernel_rfl
theorem cal90 : callable Tryd.prog 90 = false := by kernel_rfl
theorem cal91 : callable Tryd.prog 91 = false := by kernel_rfl
theorem cal92 : callable Tryd.prog 92 = false := by kernel_rfl
theorem cal93 : callable Tryd.prog 93 = false := by kernel_rfl
theorem tyS0 : type_of% (And.intro @shp2 (And.intro @zro2 (And.intro @shp3 (And.intro @zro3 (And.intro @shp4 (And.intro @zro4 (And.intro @shp5 (And.intro @zro5 (And.intro @shp6 (And.intro @zro6 (And.intro @shp7 (And.intro @fld7n0 (And.intro @fld7n1 (And.intro @fld7n2 (And.intro @fld7n3 (And.intro @bok7 (And.intro @zro7 (And.intro @shp8 (And.intro @fld8n0 (And.intro @fld8n1 (And.intro @fld8n2 (And.intro @fld8n3 (And.intro @bok8 (And.intro @zro8 (And.intro @shp9 (And.intro @zro9 (And.intro @shp10 (And.intro @zro10 (And.intro @shp11 (And.intro @zro11 (And.intro @shp12 (And.intro @zro12 (And.intro @shp13 (And.intro @fld13n0 (And.intro @fld13n1 (And.intro @bok13 (And.intro @zro13 (And.intro @shp14 (And.intro @fld14n0 (And.intro @fld14n1 (And.intro @bok14 (And.intro @zro14 (And.intro @shp15 (And.intro @zro15 (And.intro @shp16 (And.intro @zro16 (And.intro @shp17 (And.intro @zro17 (And.intro @shp18 (And.intro @fld18n0 (And.intro @bok18 (And.intro @zro18 (And.intro @shp19 (And.intro @fld19n0 (And.intro @bok19 (And.intro @zro19 (And.intro @shp20 (And.intro @zro20 (And.intro @shp21 (And.intro @zro21 (And.intro @shp22 (And.intro @zro22 (And.intro @slc22 (And.intro @shp23 (And.intro @fld23n0 (And.intro @fld23n1 (And.intro @bok23 (And.intro @sih23 (And.intro @egt23 (And.intro @zro23 (And.intro @shp24 (And.intro @fld24n0 (And.intro @fld24n1 (And.intro @bok24 (And.intro @sih24 (And.intro @egt24 (And.intro @zro24 (And.intro @shp26 (And.intro @fld26n0 (And.intro @fld26n1 (And.intro @bok26 (And.intro @sih26 (And.intro @egt26 (And.intro @zro26 (And.intro @shp27 (And.intro @fld27n0 (And.intro @fld27n1 (And.intro @bok27 (And.intro @sih27 (And.intro @egt27 (And.intro @zro27 (And.intro @shp30 (And.intro @zro30 (And.intro @shp31 (And.intro @zro31 (And.intro @shp32 (And.intro @zro32 (And.intro @shp38 (And.intro @zro38 (@slc38)))))))))))))))))))))))))))))))))))))))))))))))))))))))))))))))))))))))))))))))))))))))))))))))))))) := And.intro @shp2 (And.intro @zro2 (And.intro @shp3 (And.intro @zro3 (And.intro @shp4 (And.intro @zro4 (And.intro @shp5 (And.intro @zro5 (And.intro @shp6 (And.intro @zro6 (And.intro @shp7 (And.intro @fld7n0 (And.intro @fld7n1 (And.intro @fld7n2 (And.intro @fld7n3 (And.intro @bok7 (And.intro @zro7 (And.intro @shp8 (And.intro @fld8n0 (And.intro @fld8n1 (And.intro @fld8n2 (And.intro @fld8n3 (And.intro @bok8 (And.intro @zro8 (And.intro @shp9 (And.intro @zro9 (And.intro @shp10 (And.intro @zro10 (And.intro @shp11 (And.intro @zro11 (And.intro @shp12 (And.intro @zro12 (And.intro @shp13 (And.intro @fld13n0 (And.intro @fld13n1 (And.intro @bok13 (And.intro @zro13 (And.intro @shp14 (And.intro @fld14n0 (And.intro @fld14n1 (And.intro @bok14 (And.intro @zro14 (And.intro @shp15 (And.intro @zro15 (And.intro @shp16 (And.intro @zro16 (And.intro @shp17 (And.intro @zro17 (And.intro @shp18 (And.intro @fld18n0 (And.intro @bok18 (And.intro @zro18 (And.intro @shp19 (And.intro @fld19n0 (And.intro @bok19 (And.intro @zro19 (And.intro @shp20 (And.intro @zro20 (And.intro @shp21 (And.intro @zro21 (And.intro @shp22 (And.intro @zro22 (And.intro @slc22 (And.intro @shp23 (And.intro @fld23n0 (And.intro @fld23n1 (And.intro @bok23 (And.intro @sih23 (And.intro @egt23 (And.intro @zro23 (And.intro @shp24 (And.intro @fld24n0 (And.intro @fld24n1 (And.intro @bok24 (And.intro @sih24 (And.intro @egt24 (And.intro @zro24 (And.intro @shp26 (And.intro @fld26n0 (And.intro @fld26n1 (And.intro @bok26 (And.intro @sih26 (And.intro @egt26 (And.intro @zro26 (And.intro @shp27 (And.intro @fld27n0 (And.intro @fld27n1 (And.intro @bok27 (And.intro @sih27 (And.intro @egt27 (And.intro @zro27 (And.intro @shp30 (And.intro @zro30 (And.intro @shp31 (And.intro @zro31 (And.intro @shp32 (And.intro @zro32 (And.intro @shp38 (And.intro @zro38 (@slc38)))))))))))))))))))))))))))))))))))))))))))))))))))))))))))))))))))))))))))))))))))))))))))))))))))
theorem tyS1 : type_of% (And.intro @shp39 (And.intro @zro39 (And.intro @shp42 (And.intro @fld42n0 (And.intro @fld42n1 (And.intro @fld42n2 (And.intro @fld42n3 (And.intro @bok42 (And.intro @sih42 (And.intro @egt42 (And.intro @zro42 (And.intro @shp43 (And.intro @fld43n0 (And.intro @fld43n1 (And.intro @fld43n2 (And.intro @fld43n3 (And.intro @bok43 (And.intro @sih43 (And.intro @egt43 (And.intro @zro43 (And.intro @shp52 (And.intro @zro52 (And.intro @slc52 (And.intro @shp53 (And.intro @zro53 (And.intro @shp56 (And.intro @zro56 (And.intro @shp64 (And.intro @zro64 (And.intro @shp65 (And.intro @zro65 (And.intro @slc65 (And.intro @shp66 (And.intro @fld66n0 (And.intro @fld66n1 (And.intro @fld66n2 (And.intro @bok66 (And.intro @sih66 (And.intro @egt66 (And.intro @zro66 (And.intro @shp67 (And.intro @fld67n0 (And.intro @fld67n1 (And.intro @fld67n2 (And.intro @bok67 (And.intro @sih67 (And.intro @egt67 (And.intro @zro67 (And.intro @shp68 (And.intro @fld68n0 (And.intro @fld68n1 (And.intro @bok68 (And.intro @sih68 (And.intro @egt68 (And.intro @zro68 (And.intro @shp69 (And.intro @fld69n0 (And.intro @fld69n1 (And.intro @bok69 (And.intro @sih69 (And.intro @egt69 (And.intro @zro69 (And.intro @shp73 (And.intro @zro73 (And.intro @slc73 (And.intro @shp74 (And.intro @fld74n0 (And.intro @fld74n1 (And.intro @bok74 (And.intro @sih74 (And.intro @egt74 (And.intro @zro74 (And.intro @shp75 (And.intro @fld75n0 (And.intro @fld75n1 (And.intro @bok75 (And.intro @sih75 (And.intro @egt75 (And.intro @zro75 (And.intro @shp77 (And.intro @fld77n0 (And.intro @fld77n1 (And.intro @fld77n2 (And.intro @bok77 (And.intro @sih77 (And.intro @egt77 (And.intro @zro77 (And.intro @shp78 (And.intro @fld78n0 (And.intro @fld78n1 (And.intro @fld78n2 (And.intro @bok78 (And.intro @sih78 (And.intro @egt78 (And.intro @zro78 (And.intro @shp81 (And.intro @fld81n0 (And.intro @fld81n1 (And.intro @bok81 (@sih81)))))))))))))))))))))))))))))))))))))))))))))))))))))))))))))))))))))))))))))))))))))))))))))))))))) := And.intro @shp39 (And.intro @zro39 (And.intro @shp42 (And.intro @fld42n0 (And.intro @fld42n1 (And.intro @fld42n2 (And.intro @fld42n3 (And.intro @bok42 (And.intro @sih42 (And.intro @egt42 (And.intro @zro42 (And.intro @shp43 (And.intro @fld43n0 (And.intro @fld43n1 (And.intro @fld43n2 (And.intro @fld43n3 (And.intro @bok43 (And.intro @sih43 (And.intro @egt43 (And.intro @zro43 (And.intro @shp52 (And.intro @zro52 (And.intro @slc52 (And.intro @shp53 (And.intro @zro53 (And.intro @shp56 (And.intro @zro56 (And.intro @shp64 (And.intro @zro64 (And.intro @shp65 (And.intro @zro65 (And.intro @slc65 (And.intro @shp66 (And.intro @fld66n0 (And.intro @fld66n1 (And.intro @fld66n2 (And.intro @bok66 (And.intro @sih66 (And.intro @egt66 (And.intro @zro66 (And.intro @shp67 (And.intro @fld67n0 (And.intro @fld67n1 (And.intro @fld67n2 (And.intro @bok67 (And.intro @sih67 (And.intro @egt67 (And.intro @zro67 (And.intro @shp68 (And.intro @fld68n0 (And.intro @fld68n1 (And.intro @bok68 (And.intro @sih68 (And.intro @egt68 (And.intro @zro68 (And.intro @shp69 (And.intro @fld69n0 (And.intro @fld69n1 (And.intro @bok69 (And.intro @sih69 (And.intro @egt69 (And.intro @zro69 (And.intro @shp73 (And.intro @zro73 (And.intro @slc73 (And.intro @shp74 (And.intro @fld74n0 (And.intro @fld74n1 (And.intro @bok74 (And.intro @sih74 (And.intro @egt74 (And.intro @zro74 (And.intro @shp75 (And.intro @fld75n0 (And.intro @fld75n1 (And.intro @bok75 (And.intro @sih75 (And.intro @egt75 (And.intro @zro75 (And.intro @shp77 (And.intro @fld77n0 (And.intro @fld77n1 (And.intro @fld77n2 (And.intro @bok77 (And.intro @sih77 (And.intro @egt77 (And.intro @zro77 (And.intro @shp78 (And.intro @fld78n0 (And.intro @fld78n1 (And.intro @fld78n2 (And.intro @bok78 (And.intro @sih78 (And.intro @egt78 (And.intro @zro78 (And.intro @shp81 (And.intro @fld81n0 (And.intro @fld81n1 (And.intro @bok81 (@sih81)))))))))))))))))))))))))))))))))))))))))))))))))))))))))))))))))))))))))))))))))))))))))))))))))))
theorem tyS2 : type_of% (And.intro @egt81 (And.intro @zro81 (And.intro @shp82 (And.intro @fld82n0 (And.intro @fld82n1 (And.intro @bok82 (And.intro @sih82 (And.intro @egt82 (And.intro @zro82 (And.intro @shp83 (And.intro @fld83n0 (And.intro @fld83n1 (And.intro @bok83 (And.intro @sih83 (And.intro @egt83 (And.intro @zro83 (And.intro @shp84 (And.intro @fld84n0 (And.intro @fld84n1 (And.intro @bok84 (And.intro @sih84 (And.intro @egt84 (And.intro @zro84 (And.intro @shp91 (And.intro @zro91 (And.intro @shp94 (And.intro @zro94 (And.intro @shp98 (And.intro @zro98 (And.intro @shp99 (And.intro @zro99 (And.intro @slc99 (And.intro @shp100 (And.intro @fld100n0 (And.intro @fld100n1 (And.intro @bok100 (And.intro @zro100 (And.intro @shp101 (And.intro @fld101n0 (And.intro @fld101n1 (And.intro @bok101 (And.intro @zro101 (And.intro @shp103 (And.intro @zro103 (And.intro @shp104 (And.intro @zro104 (And.intro @shp109 (And.intro @zro109 (And.intro @shp114 (And.intro @zro114 (And.intro @shp115 (And.intro @bok115 (And.intro @zro115 (And.intro @shp120 (And.intro @zro120 (And.intro @shp124 (And.intro @bok124 (And.intro @zro124 (And.intro @shp125 (And.intro @bok125 (And.intro @zro125 (And.intro @shp128 (And.intro @bok128 (And.intro @zro128 (And.intro @shp129 (And.intro @bok129 (And.intro @zro129 (And.intro @shp130 (And.intro @fld130n0 (And.intro @fld130n1 (And.intro @fld130n2 (And.intro @fld130n3 (And.intro @bok130 (And.intro @zro130 (And.intro @shp131 (And.intro @fld131n0 (And.intro @fld131n1 (And.intro @fld131n2 (And.intro @fld131n3 (And.intro @bok131 (And.intro @zro131 (And.intro @shp132 (And.intro @bok132 (And.intro @zro132 (And.intro @shp133 (And.intro @fld133n0 (And.intro @bok133 (And.intro @zro133 (And.intro @shp134 (And.intro @fld134n0 (And.intro @bok134 (And.intro @zro134 (And.intro @shp135 (And.intro @zro135 (And.intro @shp136 (And.intro @zro136 (And.intro @shp138 (And.intro @zro138 (And.intro @shp139 (@zro139)))))))))))))))))))))))))))))))))))))))))))))))))))))))))))))))))))))))))))))))))))))))))))))))))))) := And.intro @egt81 (And.intro @zro81 (And.intro @shp82 (And.intro @fld82n0 (And.intro @fld82n1 (And.intro @bok82 (And.intro @sih82 (And.intro @egt82 (And.intro @zro82 (And.intro @shp83 (And.intro @fld83n0 (And.intro @fld83n1 (And.intro @bok83 (And.intro @sih83 (And.intro @egt83 (And.intro @zro83 (And.intro @shp84 (And.intro @fld84n0 (And.intro @fld84n1 (And.intro @bok84 (And.intro @sih84 (And.intro @egt84 (And.intro @zro84 (And.intro @shp91 (And.intro @zro91 (And.intro @shp94 (And.intro @zro94 (And.intro @shp98 (And.intro @zro98 (And.intro @shp99 (And.intro @zro99 (And.intro @slc99 (And.intro @shp100 (And.intro @fld100n0 (And.intro @fld100n1 (And.intro @bok100 (And.intro @zro100 (And.intro @shp101 (And.intro @fld101n0 (And.intro @fld101n1 (And.intro @bok101 (And.intro @zro101 (And.intro @shp103 (And.intro @zro103 (And.intro @shp104 (And.intro @zro104 (And.intro @shp109 (And.intro @zro109 (And.intro @shp114 (And.intro @zro114 (And.intro @shp115 (And.intro @bok115 (And.intro @zro115 (And.intro @shp120 (And.intro @zro120 (And.intro @shp124 (And.intro @bok124 (And.intro @zro124 (And.intro @shp125 (And.intro @bok125 (And.intro @zro125 (And.intro @shp128 (And.intro @bok128 (And.intro @zro128 (And.intro @shp129 (And.intro @bok129 (And.intro @zro129 (And.intro @shp130 (And.intro @fld130n0 (And.intro @fld130n1 (And.intro @fld130n2 (And.intro @fld130n3 (And.intro @bok130 (And.intro @zro130 (And.intro @shp131 (And.intro @fld131n0 (And.intro @fld131n1 (And.intro @fld131n2 (And.intro @fld131n3 (And.intro @bok131 (And.intro @zro131 (And.intro @shp132 (And.intro @bok132 (And.intro @zro132 (And.intro @shp133 (And.intro @fld133n0 (And.intro @bok133 (And.intro @zro133 (And.intro @shp134 (And.intro @fld134n0 (And.intro @bok134 (And.intro @zro134 (And.intro @shp135 (And.intro @zro135 (And.intro @shp136 (And.intro @zro136 (And.intro @shp138 (And.intro @zro138 (And.intro @shp139 (@zro139)))))))))))))))))))))))))))))))))))))))))))))))))))))))))))))))))))))))))))))))))))))))))))))))))))
theorem tyS3 : type_of% (And.intro @shp140 (And.intro @fld140n0 (And.intro @fld140n1 (And.intro @fld140n2 (And.intro @fld140n3 (And.intro @fld140n4 (And.intro @fld140n5 (And.intro @fld140n6 (And.intro @fld140n7 (And.intro @fld140n8 (And.intro @fld140n9 (And.intro @fld140n10 (And.intro @bok140 (And.intro @zro140 (And.intro @shp141 (And.intro @fld141n0 (And.intro @fld141n1 (And.intro @fld141n2 (And.intro @fld141n3 (And.intro @fld141n4 (And.intro @fld141n5 (And.intro @fld141n6 (And.intro @fld141n7 (And.intro @fld141n8 (And.intro @fld141n9 (And.intro @fld141n10 (And.intro @bok141 (And.intro @zro141 (And.intro @cal2 (And.intro @cal3 (And.intro @cal4 (And.intro @cal5 (And.intro @cal6 (And.intro @cal7 (And.intro @cal8 (And.intro @cal9 (And.intro @cal10 (And.intro @cal11 (And.intro @cal12 (And.intro @cal13 (And.intro @cal14 (And.intro @cal15 (And.intro @cal16 (And.intro @cal17 (And.intro @cal18 (And.intro @cal19 (And.intro @cal20 (And.intro @cal21 (And.intro @cal22 (And.intro @cal23 (And.intro @cal24 (And.intro @cal25 (And.intro @cal26 (And.intro @cal27 (And.intro @cal28 (And.intro @cal29 (And.intro @cal30 (And.intro @cal31 (And.intro @cal32 (And.intro @cal33 (And.intro @cal34 (And.intro @cal35 (And.intro @cal36 (And.intro @cal37 (And.intro @cal38 (And.intro @cal39 (And.intro @cal40 (And.intro @cal41 (And.intro @cal42 (And.intro @cal43 (And.intro @cal44 (And.intro @cal45 (And.intro @cal46 (And.intro @cal47 (And.intro @cal48 (And.intro @cal49 (And.intro @cal50 (And.intro @cal51 (And.intro @cal52 (And.intro @cal53 (And.intro @cal54 (And.intro @cal55 (And.intro @cal56 (And.intro @cal57 (And.intro @cal58 (And.intro @cal59 (And.intro @cal60 (And.intro @cal61 (And.intro @cal62 (And.intro @cal65 (And.intro @cal66 (And.intro @cal67 (And.intro @cal68 (And.intro @cal69 (And.intro @cal70 (And.intro @cal71 (And.intro @cal94 (And.intro @cal0 (And.intro @cal1 (@cal63)))))))))))))))))))))))))))))))))))))))))))))))))))))))))))))))))))))))))))))))))))))))))))))))))))) := And.intro @shp140 (And.intro @fld140n0 (And.intro @fld140n1 (And.intro @fld140n2 (And.intro @fld140n3 (And.intro @fld140n4 (And.intro @fld140n5 (And.intro @fld140n6 (And.intro @fld140n7 (And.intro @fld140n8 (And.intro @fld140n9 (And.intro @fld140n10 (And.intro @bok140 (And.intro @zro140 (And.intro @shp141 (And.intro @fld141n0 (And.intro @fld141n1 (And.intro @fld141n2 (And.intro @fld141n3 (And.intro @fld141n4 (And.intro @fld141n5 (And.intro @fld141n6 (And.intro @fld141n7 (And.intro @fld141n8 (And.intro @fld141n9 (And.intro @fld141n10 (And.intro @bok141 (And.intro @zro141 (And.intro @cal2 (And.intro @cal3 (And.intro @cal4 (And.intro @cal5 (And.intro @cal6 (And.intro @cal7 (And.intro @cal8 (And.intro @cal9 (And.intro @cal10 (And.intro @cal11 (And.intro @cal12 (And.intro @cal13 (And.intro @cal14 (And.intro @cal15 (And.intro @cal16 (And.intro @cal17 (And.intro @cal18 (And.intro @cal19 (And.intro @cal20 (And.intro @cal21 (And.intro @cal22 (And.intro @cal23 (And.intro @cal24 (And.intro @cal25 (And.intro @cal26 (And.intro @cal27 (And.intro @cal28 (And.intro @cal29 (And.intro @cal30 (And.intro @cal31 (And.intro @cal32 (And.intro @cal33 (And.intro @cal34 (And.intro @cal35 (And.intro @cal36 (And.intro @cal37 (And.intro @cal38 (And.intro @cal39 (And.intro @cal40 (And.intro @cal41 (And.intro @cal42 (And.intro @cal43 (And.intro @cal44 (And.intro @cal45 (And.intro @cal46 (And.intro @cal47 (And.intro @cal48 (And.intro @cal49 (And.intro @cal50 (And.intro @cal51 (And.intro @cal52 (And.intro @cal53 (And.intro @cal54 (And.intro @cal55 (And.intro @cal56 (And.intro @cal57 (And.intro @cal58 (And.intro @cal59 (And.intro @cal60 (And.intro @cal61 (And.intro @cal62 (And.intro @cal65 (And.intro @cal66 (And.intro @cal67 (And.intro @cal68 (And.intro @cal69 (And.intro @cal70 (And.intro @cal71 (And.intro @cal94 (And.intro @cal0 (And.intro @cal1 (@cal63)))))))))))))))))))))))))))))))))))))))))))))))))))))))))))))))))))))))))))))))))))))))))))))))))))
theorem tyS4 : type_of% (And.intro @cal64 (And.intro @cal72 (And.intro @cal73 (And.intro @cal74 (And.intro @cal75 (And.intro @cal76 (And.intro @cal77 (And.intro @cal78 (And.intro @cal79 (And.intro @cal80 (And.intro @cal81 (And.intro @cal82 (And.intro @cal83 (And.intro @cal84 (And.intro @cal85 (And.intro @cal86 (And.intro @cal87 (And.intro @cal88 (And.intro @cal89 (And.intro @cal90 (And.intro @cal91 (And.intro @cal92 (And.intro @cal93 (And.intro @Tryd.underlying2 (And.intro @Tryd.underlying3 (And.intro @Tryd.underlying4 (And.intro @Tryd.underlying5 (And.intro @Tryd.underlying6 (And.intro @Tryd.underlying7 (And.intro @Tryd.underlying8 (And.intro @Tryd.underlying9 (And.intro @Tryd.underlying10 (And.intro @Tryd.underlying11 (And.intro @Tryd.underlying12 (And.intro @Tryd.underlying13 (And.intro @Tryd.underlying14 (And.intro @Tryd.underlying15 (And.intro @Tryd.underlying16 (And.intro @Tryd.underlying17 (And.intro @Tryd.underlying18 (And.intro @Tryd.underlying19 (And.intro @Tryd.underlying21 (And.intro @Tryd.underlying22 (And.intro @Tryd.underlying23 (And.intro @Tryd.underlying24 (And.intro @Tryd.underlying26 (And.intro @Tryd.underlying27 (And.intro @Tryd.underlying30 (And.intro @Tryd.underlying31 (And.intro @Tryd.underlying32 (And.intro @Tryd.underlying38 (And.intro @Tryd.underlying39 (And.intro @Tryd.underlying42 (And.intro @Tryd.underlying43 (And.intro @Tryd.underlying52 (And.intro @Tryd.underlying53 (And.intro @Tryd.underlying56 (And.intro @Tryd.underlying64 (And.intro @Tryd.underlying65 (And.intro @Tryd.underlying66 (And.intro @Tryd.underlying67 (And.intro @Tryd.underlying68 (And.intro @Tryd.underlying69 (And.intro @Tryd.underlying73 (And.intro @Tryd.underlying74 (And.intro @Tryd.underlying75 (And.intro @Tryd.underlying77 (And.intro @Tryd.underlying78 (And.intro @Tryd.underlying81 (And.intro @Tryd.underlying82 (And.intro @Tryd.underlying83 (And.intro @Tryd.underlying84 (And.intro @Tryd.underlying91 (And.intro @Tryd.underlying94 (And.intro @Tryd.underlying98 (And.intro @Tryd.underlying99 (And.intro @Tryd.underlying100 (And.intro @Tryd.underlying101 (And.intro @Tryd.underlying109 (And.intro @Tryd.underlying114 (And.intro @Tryd.underlying115 (And.intro @Tryd.underlying120 (And.intro @Tryd.underlying124 (And.intro @Tryd.underlying125 (And.intro @Tryd.underlying128 (And.intro @Tryd.underlying129 (And.intro @Tryd.underlying130 (And.intro @Tryd.underlying131 (And.intro @Tryd.underlying132 (And.intro @Tryd.underlying133 (And.intro @Tryd.underlying134 (And.intro @Tryd.underlying135 (And.intro @Tryd.underlying136 (And.intro @Tryd.underlying138 (And.intro @Tryd.underlying139 (And.intro @Tryd.underlying140 (And.intro @Tryd.underlying141 (And.intro @Tryd.results2 (And.intro @Tryd.results3 (@Tryd.results4)))))))))))))))))))))))))))))))))))))))))))))))))))))))))))))))))))))))))))))))))))))))))))))))))))) := And.intro @cal64 (And.intro @cal72 (And.intro @cal73 (And.intro @cal74 (And.intro @cal75 (And.intro @cal76 (And.intro @cal77 (And.intro @cal78 (And.intro @cal79 (And.intro @cal80 (And.intro @cal81 (And.intro @cal82 (And.intro @cal83 (And.intro @cal84 (And.intro @cal85 (And.intro @cal86 (And.intro @cal87 (And.intro @cal88 (And.intro @cal89 (And.intro @cal90 (And.intro @cal91 (And.intro @cal92 (And.intro @cal93 (And.intro @Tryd.underlying2 (And.intro @Tryd.underlying3 (And.intro @Tryd.underlying4 (And.intro @Tryd.underlying5 (And.intro @Tryd.underlying6 (And.intro @Tryd.underlying7 (And.intro @Tryd.underlying8 (And.intro @Tryd.underlying9 (And.intro @Tryd.underlying10 (And.intro @Tryd.underlying11 (And.intro @Tryd.underlying12 (And.intro @Tryd.underlying13 (And.intro @Tryd.underlying14 (And.intro @Tryd.underlying15 (And.intro @Tryd.underlying16 (And.intro @Tryd.underlying17 (And.intro @Tryd.underlying18 (And.intro @Tryd.underlying19 (And.intro @Tryd.underlying21 (And.intro @Tryd.underlying22 (And.intro @Tryd.underlying23 (And.intro @Tryd.underlying24 (And.intro @Tryd.underlying26 (And.intro @Tryd.underlying27 (And.intro @Tryd.underlying30 (And.intro @Tryd.underlying31 (And.intro @Tryd.underlying32 (And.intro @Tryd.underlying38 (And.intro @Tryd.underlying39 (And.intro @Tryd.underlying42 (And.intro @Tryd.underlying43 (And.intro @Tryd.underlying52 (And.intro @Tryd.underlying53 (And.intro @Tryd.underlying56 (And.intro @Tryd.underlying64 (And.intro @Tryd.underlying65 (And.intro @Tryd.underlying66 (And.intro @Tryd.underlying67 (And.intro @Tryd.underlying68 (And.intro @Tryd.underlying69 (And.intro @Tryd.underlying73 (And.intro @Tryd.underlying74 (And.intro @Tryd.underlying75 (And.intro @Tryd.underlying77 (And.intro @Tryd.underlying78 (And.intro @Tryd.underlying81 (And.intro @Tryd.underlying82 (And.intro @Tryd.underlying83 (And.intro @Tryd.underlying84 (And.intro @Tryd.underlying91 (And.intro @Tryd.underlying94 (And.intro @Tryd.underlying98 (And.intro @Tryd.underlying99 (And.intro @Tryd.underlying100 (And.intro @Tryd.underlying101 (And.intro @Tryd.underlying109 (And.intro @Tryd.underlying114 (And.intro @Tryd.underlying115 (And.intro @Tryd.underlying120 (And.intro @Tryd.underlying124 (And.intro @Tryd.underlying125 (And.intro @Tryd.underlying128 (And.intro @Tryd.underlying129 (And.intro @Tryd.underlying130 (And.intro @Tryd.underlying131 (And.intro @Tryd.underlying132 (And.intro @Tryd.underlying133 (And.intro @Tryd.underlying134 (And.intro @Tryd.underlying135 (And.intro @Tryd.underlying136 (And.intro @Tryd.underlying138 (And.intro @Tryd.underlying139 (And.intro @Tryd.underlying140 (And.intro @Tryd.underlying141 (And.intro @Tryd.results2 (And.intro @Tryd.results3 (@Tryd.results4)))))))))))))))))))))))))))))))))))))))))))))))))))))))))))))))))))))))))))))))))))))))))))))))))))
theorem tyS5 : type_of% (And.intro @Tryd.results5 (And.intro @Tryd.results6 (And.intro @Tryd.results7 (And.intro @Tryd.results8 (And.intro @Tryd.results9 (And.intro @Tryd.results10 (And.intro @Tryd.results11 (And.intro @Tryd.results12 (And.intro @Tryd.results13 (And.intro @Tryd.results14 (And.intro @Tryd.results15 (And.intro @Tryd.results16 (And.intro @Tryd.results17 (And.intro @Tryd.results18 (And.intro @Tryd.results19 (And.intro @Tryd.results20 (And.intro @Tryd.results21 (And.intro @Tryd.results22 (And.intro @Tryd.results23 (And.intro @Tryd.results24 (And.intro @Tryd.results25 (And.intro @Tryd.results26 (And.intro @Tryd.results27 (And.intro @Tryd.results28 (And.intro @Tryd.results29 (And.intro @Tryd.results30 (And.intro @Tryd.results31 (And.intro @Tryd.results32 (And.intro @Tryd.results33 (And.intro @Tryd.results34 (And.intro @Tryd.results35 (And.intro @Tryd.results36 (And.intro @Tryd.results37 (And.intro @Tryd.results38 (And.intro @Tryd.results39 (And.intro @Tryd.results40 (And.intro @Tryd.results41 (And.intro @Tryd.results42 (And.intro @Tryd.results43 (And.intro @Tryd.results44 (And.intro @Tryd.results45 (And.intro @Tryd.results46 (And.intro @Tryd.results47 (And.intro @Tryd.results48 (And.intro @Tryd.results49 (And.intro @Tryd.results50 (And.intro @Tryd.results51 (And.intro @Tryd.results52 (And.intro @Tryd.results53 (And.intro @Tryd.results54 (And.intro @Tryd.results55 (And.intro @Tryd.results56 (And.intro @Tryd.results57 (And.intro @Tryd.results58 (And.intro @Tryd.results59 (And.intro @Tryd.results60 (And.intro @Tryd.results61 (And.intro @Tryd.results62 (And.intro @Tryd.results65 (And.intro @Tryd.results66 (And.intro @Tryd.results67 (And.intro @Tryd.results68 (And.intro @Tryd.results69 (And.intro @Tryd.results70 (And.intro @Tryd.results71 (@Tryd.results94)))))))))))))))))))))))))))))))))))))))))))))))))))))))))))))))))) := And.intro @Tryd.results5 (And.intro @Tryd.results6 (And.intro @Tryd.results7 (And.intro @Tryd.results8 (And.intro @Tryd.results9 (And.intro @Tryd.results10 (And.intro @Tryd.results11 (And.intro @Tryd.results12 (And.intro @Tryd.results13 (And.intro @Tryd.results14 (And.intro @Tryd.results15 (And.intro @Tryd.results16 (And.intro @Tryd.results17 (And.intro @Tryd.results18 (And.intro @Tryd.results19 (And.intro @Tryd.results20 (And.intro @Tryd.results21 (And.intro @Tryd.results22 (And.intro @Tryd.results23 (And.intro @Tryd.results24 (And.intro @Tryd.results25 (And.intro @Tryd.results26 (And.intro @Tryd.results27 (And.intro @Tryd.results28 (And.intro @Tryd.results29 (And.intro @Tryd.results30 (And.intro @Tryd.results31 (And.intro @Tryd.results32 (And.intro @Tryd.results33 (And.intro @Tryd.results34 (And.intro @Tryd.results35 (And.intro @Tryd.results36 (And.intro @Tryd.results37 (And.intro @Tryd.results38 (And.intro @Tryd.results39 (And.intro @Tryd.results40 (And.intro @Tryd.results41 (And.intro @Tryd.results42 (And.intro @Tryd.results43 (And.intro @Tryd.results44 (And.intro @Tryd.results45 (And.intro @Tryd.results46 (And.intro @Tryd.results47 (And.intro @Tryd.results48 (And.intro @Tryd.results49 (And.intro @Tryd.results50 (And.intro @Tryd.results51 (And.intro @Tryd.results52 (And.intro @Tryd.results53 (And.intro @Tryd.results54 (And.intro @Tryd.results55 (And.intro @Tryd.results56 (And.intro @Tryd.results57 (And.intro @Tryd.results58 (And.intro @Tryd.results59 (And.intro @Tryd.results60 (And.intro @Tryd.results61 (And.intro @Tryd.results62 (And.intro @Tryd.results65 (And.intro @Tryd.results66 (And.intro @Tryd.results67 (And.intro @Tryd.results68 (And.intro @Tryd.results69 (And.intro @Tryd.results70 (And.intro @Tryd.results71 (@Tryd.results94)))))))))))))))))))))))))))))))))))))))))))))))))))))))))))))))))
theorem tyS : type_of% (And.intro @tyS0 (And.intro @tyS1 (And.intro @tyS2 (And.intro @tyS3 (And.intro @tyS4 (@tyS5)))))) := And.intro @tyS0 (And.intro @tyS1 (And.intro @tyS2 (And.intro @tyS3 (And.intro @tyS4 (@tyS5)))))
end Go.Proofs.YthmkhmgmoflmkaaDoor
