/-
Closed facts on the types and functions of this translation.
Conditions: none.
-/
import Derived.Test.YtilifbndbdanoaaDoorProg
import Derived.Test.YtilifbndbdanoaaDoorVmEq
import Derived.KernelRfl
namespace Go.Proofs.YtilifbndbdanoaaDoor
open Go.Vm
set_option maxRecDepth 100000
theorem shp2 : shp Tryd.prog 2 = some (false, 1) := by kernel_rfl
theorem zro2 : zro Tryd.prog 2 = some (.int .i64 0) := by kernel_rfl
theorem shp3 : shp Tryd.prog 3 = some (false, 1) := by kernel_rfl
theorem zro3 : zro Tryd.prog 3 = some (.int .i64 0) := by kernel_rfl
theorem shp4 : shp Tryd.prog 4 = some (false, 1) := by kernel_rfl
theorem zro4 : zro Tryd.prog 4 = some (.bool false) := by kernel_rfl
theorem shp5 : shp Tryd.prog 5 = some (false, 1) := by kernel_rfl
theorem zro5 : zro Tryd.prog 5 = some (.int .u8 0) := by kernel_rfl
theorem shp6 : shp Tryd.prog 6 = some (false, 1) := by kernel_rfl
theorem zro6 : zro Tryd.prog 6 = some (.int .u8 0) := by kernel_rfl
theorem shp7 : shp Tryd.prog 7 = some (true, 4) := by kernel_rfl
theorem fld7n0 : fld Tryd.prog 7 0 = some (0, false, 1) := by kernel_rfl
theorem fld7n1 : fld Tryd.prog 7 1 = some (1, false, 1) := by kernel_rfl
theorem fld7n2 : fld Tryd.prog 7 2 = some (2, false, 1) := by kernel_rfl
theorem fld7n3 : fld Tryd.prog 7 3 = some (3, false, 1) := by kernel_rfl
theorem bok7 : bldOk Tryd.prog 7 = true := by kernel_rfl
theorem zro7 : zro Tryd.prog 7 = some (.agg #[.int .i64 0, .int .i64 0, .bool false, .int .u8 0]) := by kernel_rfl
theorem shp8 : shp Tryd.prog 8 = some (true, 4) := by kernel_rfl
theorem fld8n0 : fld Tryd.prog 8 0 = some (0, false, 1) := by kernel_rfl
theorem fld8n1 : fld Tryd.prog 8 1 = some (1, false, 1) := by kernel_rfl
theorem fld8n2 : fld Tryd.prog 8 2 = some (2, false, 1) := by kernel_rfl
theorem fld8n3 : fld Tryd.prog 8 3 = some (3, false, 1) := by kernel_rfl
theorem bok8 : bldOk Tryd.prog 8 = true := by kernel_rfl
theorem zro8 : zro Tryd.prog 8 = some (.agg #[.int .i64 0, .int .i64 0, .bool false, .int .u8 0]) := by kernel_rfl
theorem shp9 : shp Tryd.prog 9 = some (false, 1) := by kernel_rfl
theorem zro9 : zro Tryd.prog 9 = some (.string ⟨#[]⟩) := by kernel_rfl
theorem shp10 : shp Tryd.prog 10 = some (false, 1) := by kernel_rfl
theorem zro10 : zro Tryd.prog 10 = some (.string ⟨#[]⟩) := by kernel_rfl
theorem shp11 : shp Tryd.prog 11 = some (false, 1) := by kernel_rfl
theorem zro11 : zro Tryd.prog 11 = some (.string ⟨#[]⟩) := by kernel_rfl
theorem shp12 : shp Tryd.prog 12 = some (false, 1) := by kernel_rfl
theorem zro12 : zro Tryd.prog 12 = some (.int .u64 0) := by kernel_rfl
theorem shp13 : shp Tryd.prog 13 = some (true, 2) := by kernel_rfl
theorem fld13n0 : fld Tryd.prog 13 0 = some (0, false, 1) := by kernel_rfl
theorem fld13n1 : fld Tryd.prog 13 1 = some (1, false, 1) := by kernel_rfl
theorem bok13 : bldOk Tryd.prog 13 = true := by kernel_rfl
theorem zro13 : zro Tryd.prog 13 = some (.agg #[.string ⟨#[]⟩, .int .u64 0]) := by kernel_rfl
theorem shp14 : shp Tryd.prog 14 = some (true, 2) := by kernel_rfl
theorem fld14n0 : fld Tryd.prog 14 0 = some (0, false, 1) := by kernel_rfl
theorem fld14n1 : fld Tryd.prog 14 1 = some (1, false, 1) := by kernel_rfl
theorem bok14 : bldOk Tryd.prog 14 = true := by kernel_rfl
theorem zro14 : zro Tryd.prog 14 = some (.agg #[.string ⟨#[]⟩, .int .u64 0]) := by kernel_rfl
theorem shp15 : shp Tryd.prog 15 = some (false, 1) := by kernel_rfl
theorem zro15 : zro Tryd.prog 15 = some (.pointer none) := by kernel_rfl
theorem shp16 : shp Tryd.prog 16 = some (false, 1) := by kernel_rfl
theorem zro16 : zro Tryd.prog 16 = some (.pointer none) := by kernel_rfl
theorem shp17 : shp Tryd.prog 17 = some (false, 1) := by kernel_rfl
theorem zro17 : zro Tryd.prog 17 = some (.pointer none) := by kernel_rfl
theorem shp18 : shp Tryd.prog 18 = some (true, 1) := by kernel_rfl
theorem fld18n0 : fld Tryd.prog 18 0 = some (0, false, 1) := by kernel_rfl
theorem bok18 : bldOk Tryd.prog 18 = true := by kernel_rfl
theorem zro18 : zro Tryd.prog 18 = some (.agg #[.pointer none]) := by kernel_rfl
theorem shp19 : shp Tryd.prog 19 = some (true, 1) := by kernel_rfl
theorem fld19n0 : fld Tryd.prog 19 0 = some (0, false, 1) := by kernel_rfl
theorem bok19 : bldOk Tryd.prog 19 = true := by kernel_rfl
theorem zro19 : zro Tryd.prog 19 = some (.agg #[.pointer none]) := by kernel_rfl
theorem shp20 : shp Tryd.prog 20 = some (false, 1) := by kernel_rfl
theorem zro20 : zro Tryd.prog 20 = some (.nilIface) := by kernel_rfl
theorem shp21 : shp Tryd.prog 21 = some (false, 1) := by kernel_rfl
theorem zro21 : zro Tryd.prog 21 = some (.int .i32 0) := by kernel_rfl
theorem shp22 : shp Tryd.prog 22 = some (false, 1) := by kernel_rfl
theorem zro22 : zro Tryd.prog 22 = some (.slice none 0 0) := by kernel_rfl
theorem slc22 : slc Tryd.prog 22 = some (25, 4, 40) := by kernel_rfl
theorem shp24 : shp Tryd.prog 24 = some (true, 4) := by kernel_rfl
theorem fld24n0 : fld Tryd.prog 24 0 = some (0, false, 1) := by kernel_rfl
theorem fld24n1 : fld Tryd.prog 24 1 = some (1, false, 1) := by kernel_rfl
theorem fld24n2 : fld Tryd.prog 24 2 = some (2, false, 1) := by kernel_rfl
theorem fld24n3 : fld Tryd.prog 24 3 = some (3, false, 1) := by kernel_rfl
theorem bok24 : bldOk Tryd.prog 24 = true := by kernel_rfl
theorem sih24 : Tryd.prog.stoodInHeld 24 = false := by kernel_rfl
theorem egt24 : Tryd.prog.eqGuardType Tryd.prog.depth 24 = false := by kernel_rfl
theorem zro24 : zro Tryd.prog 24 = some (.agg #[.int .i64 0, .string ⟨#[]⟩, .int .i64 0, .int .i64 0]) := by kernel_rfl
theorem shp25 : shp Tryd.prog 25 = some (true, 4) := by kernel_rfl
theorem fld25n0 : fld Tryd.prog 25 0 = some (0, false, 1) := by kernel_rfl
theorem fld25n1 : fld Tryd.prog 25 1 = some (1, false, 1) := by kernel_rfl
theorem fld25n2 : fld Tryd.prog 25 2 = some (2, false, 1) := by kernel_rfl
theorem fld25n3 : fld Tryd.prog 25 3 = some (3, false, 1) := by kernel_rfl
theorem bok25 : bldOk Tryd.prog 25 = true := by kernel_rfl
theorem sih25 : Tryd.prog.stoodInHeld 25 = false := by kernel_rfl
theorem egt25 : Tryd.prog.eqGuardType Tryd.prog.depth 25 = false := by kernel_rfl
theorem zro25 : zro Tryd.prog 25 = some (.agg #[.int .i64 0, .string ⟨#[]⟩, .int .i64 0, .int .i64 0]) := by kernel_rfl
theorem shp28 : shp Tryd.prog 28 = some (false, 1) := by kernel_rfl
theorem zro28 : zro Tryd.prog 28 = some (.int .i64 0) := by kernel_rfl
theorem shp32 : shp Tryd.prog 32 = some (false, 1) := by kernel_rfl
theorem zro32 : zro Tryd.prog 32 = some (.slice none 0 0) := by kernel_rfl
theorem slc32 : slc Tryd.prog 32 = some (9, 1, 16) := by kernel_rfl
theorem shp38 : shp Tryd.prog 38 = some (false, 1) := by kernel_rfl
theorem zro38 : zro Tryd.prog 38 = some (.pointer none) := by kernel_rfl
theorem shp39 : shp Tryd.prog 39 = some (false, 1) := by kernel_rfl
theorem zro39 : zro Tryd.prog 39 = some (.slice none 0 0) := by kernel_rfl
theorem slc39 : slc Tryd.prog 39 = some (5, 1, 1) := by kernel_rfl
theorem shp40 : shp Tryd.prog 40 = some (true, 2) := by kernel_rfl
theorem fld40n0 : fld Tryd.prog 40 0 = some (0, false, 1) := by kernel_rfl
theorem fld40n1 : fld Tryd.prog 40 1 = some (1, false, 1) := by kernel_rfl
theorem bok40 : bldOk Tryd.prog 40 = true := by kernel_rfl
theorem zro40 : zro Tryd.prog 40 = some (.agg #[.pointer none, .slice none 0 0]) := by kernel_rfl
theorem shp41 : shp Tryd.prog 41 = some (true, 2) := by kernel_rfl
theorem fld41n0 : fld Tryd.prog 41 0 = some (0, false, 1) := by kernel_rfl
theorem fld41n1 : fld Tryd.prog 41 1 = some (1, false, 1) := by kernel_rfl
theorem bok41 : bldOk Tryd.prog 41 = true := by kernel_rfl
theorem zro41 : zro Tryd.prog 41 = some (.agg #[.pointer none, .slice none 0 0]) := by kernel_rfl
theorem shp43 : shp Tryd.prog 43 = some (false, 1) := by kernel_rfl
theorem zro43 : zro Tryd.prog 43 = some (.nilIface) := by kernel_rfl
theorem shp44 : shp Tryd.prog 44 = some (false, 1) := by kernel_rfl
theorem zro44 : zro Tryd.prog 44 = some (.nilIface) := by kernel_rfl
theorem shp57 : shp Tryd.prog 57 = some (true, 24) := by kernel_rfl
theorem bok57 : bldOk Tryd.prog 57 = false := by kernel_rfl
theorem zro57 : zro Tryd.prog 57 = some (.agg #[.int .u8 0, .int .u8 0, .int .u8 0, .int .u8 0, .int .u8 0, .int .u8 0, .int .u8 0, .int .u8 0, .int .u8 0, .int .u8 0, .int .u8 0, .int .u8 0, .int .u8 0, .int .u8 0, .int .u8 0, .int .u8 0, .int .u8 0, .int .u8 0, .int .u8 0, .int .u8 0, .int .u8 0, .int .u8 0, .int .u8 0, .int .u8 0]) := by kernel_rfl
theorem shp58 : shp Tryd.prog 58 = some (false, 1) := by kernel_rfl
theorem zro58 : zro Tryd.prog 58 = some (.int .u64 0) := by kernel_rfl
theorem shp63 : shp Tryd.prog 63 = some (false, 1) := by kernel_rfl
theorem zro63 : zro Tryd.prog 63 = some (.pointer none) := by kernel_rfl
theorem shp68 : shp Tryd.prog 68 = some (true, 20) := by kernel_rfl
theorem bok68 : bldOk Tryd.prog 68 = false := by kernel_rfl
theorem zro68 : zro Tryd.prog 68 = some (.agg #[.int .u64 0, .int .u64 0, .int .u64 0, .int .u64 0, .int .u64 0, .int .u64 0, .int .u64 0, .int .u64 0, .int .u64 0, .int .u64 0, .int .u64 0, .int .u64 0, .int .u64 0, .int .u64 0, .int .u64 0, .int .u64 0, .int .u64 0, .int .u64 0, .int .u64 0, .int .u64 0]) := by kernel_rfl
theorem shp69 : shp Tryd.prog 69 = some (false, 1) := by kernel_rfl
theorem zro69 : zro Tryd.prog 69 = some (.int .u32 0) := by kernel_rfl
theorem shp70 : shp Tryd.prog 70 = some (true, 65) := by kernel_rfl
theorem bok70 : bldOk Tryd.prog 70 = false := by kernel_rfl
theorem zro70 : zro Tryd.prog 70 = some (.agg #[.int .u8 0, .int .u8 0, .int .u8 0, .int .u8 0, .int .u8 0, .int .u8 0, .int .u8 0, .int .u8 0, .int .u8 0, .int .u8 0, .int .u8 0, .int .u8 0, .int .u8 0, .int .u8 0, .int .u8 0, .int .u8 0, .int .u8 0, .int .u8 0, .int .u8 0, .int .u8 0, .int .u8 0, .int .u8 0, .int .u8 0, .int .u8 0, .int .u8 0, .int .u8 0, .int .u8 0, .int .u8 0, .int .u8 0, .int .u8 0, .int .u8 0, .int .u8 0, .int .u8 0, .int .u8 0, .int .u8 0, .int .u8 0, .int .u8 0, .int .u8 0, .int .u8 0, .int .u8 0, .int .u8 0, .int .u8 0, .int .u8 0, .int .u8 0, .int .u8 0, .int .u8 0, .int .u8 0, .int .u8 0, .int .u8 0, .int .u8 0, .int .u8 0, .int .u8 0, .int .u8 0, .int .u8 0, .int .u8 0, .int .u8 0, .int .u8 0, .int .u8 0, .int .u8 0, .int .u8 0, .int .u8 0, .int .u8 0, .int .u8 0, .int .u8 0, .int .u8 0]) := by kernel_rfl
theorem shp72 : shp Tryd.prog 72 = some (false, 1) := by kernel_rfl
theorem zro72 : zro Tryd.prog 72 = some (.int .u64 0) := by kernel_rfl
theorem shp74 : shp Tryd.prog 74 = some (false, 1) := by kernel_rfl
theorem zro74 : zro Tryd.prog 74 = some (.pointer none) := by kernel_rfl
theorem shp81 : shp Tryd.prog 81 = some (true, 32) := by kernel_rfl
theorem bok81 : bldOk Tryd.prog 81 = false := by kernel_rfl
theorem zro81 : zro Tryd.prog 81 = some (.agg #[.int .u8 0, .int .u8 0, .int .u8 0, .int .u8 0, .int .u8 0, .int .u8 0, .int .u8 0, .int .u8 0, .int .u8 0, .int .u8 0, .int .u8 0, .int .u8 0, .int .u8 0, .int .u8 0, .int .u8 0, .int .u8 0, .int .u8 0, .int .u8 0, .int .u8 0, .int .u8 0, .int .u8 0, .int .u8 0, .int .u8 0, .int .u8 0, .int .u8 0, .int .u8 0, .int .u8 0, .int .u8 0, .int .u8 0, .int .u8 0, .int .u8 0, .int .u8 0]) := by kernel_rfl
theorem shp82 : shp Tryd.prog 82 = some (true, 64) := by kernel_rfl
theorem bok82 : bldOk Tryd.prog 82 = false := by kernel_rfl
theorem zro82 : zro Tryd.prog 82 = some (.agg #[.int .u8 0, .int .u8 0, .int .u8 0, .int .u8 0, .int .u8 0, .int .u8 0, .int .u8 0, .int .u8 0, .int .u8 0, .int .u8 0, .int .u8 0, .int .u8 0, .int .u8 0, .int .u8 0, .int .u8 0, .int .u8 0, .int .u8 0, .int .u8 0, .int .u8 0, .int .u8 0, .int .u8 0, .int .u8 0, .int .u8 0, .int .u8 0, .int .u8 0, .int .u8 0, .int .u8 0, .int .u8 0, .int .u8 0, .int .u8 0, .int .u8 0, .int .u8 0, .int .u8 0, .int .u8 0, .int .u8 0, .int .u8 0, .int .u8 0, .int .u8 0, .int .u8 0, .int .u8 0, .int .u8 0, .int .u8 0, .int .u8 0, .int .u8 0, .int .u8 0, .int .u8 0, .int .u8 0, .int .u8 0, .int .u8 0, .int .u8 0, .int .u8 0, .int .u8 0, .int .u8 0, .int .u8 0, .int .u8 0, .int .u8 0, .int .u8 0, .int .u8 0, .int .u8 0, .int .u8 0, .int .u8 0, .int .u8 0, .int .u8 0, .int .u8 0]) := by kernel_rfl
theorem shp83 : shp Tryd.prog 83 = some (true, 4) := by kernel_rfl
theorem fld83n0 : fld Tryd.prog 83 0 = some (0, false, 1) := by kernel_rfl
theorem fld83n1 : fld Tryd.prog 83 1 = some (1, false, 1) := by kernel_rfl
theorem fld83n2 : fld Tryd.prog 83 2 = some (2, false, 1) := by kernel_rfl
theorem fld83n3 : fld Tryd.prog 83 3 = some (3, false, 1) := by kernel_rfl
theorem bok83 : bldOk Tryd.prog 83 = true := by kernel_rfl
theorem zro83 : zro Tryd.prog 83 = some (.agg #[.pointer none, .pointer none, .pointer none, .string ⟨#[]⟩]) := by kernel_rfl
theorem shp84 : shp Tryd.prog 84 = some (true, 4) := by kernel_rfl
theorem fld84n0 : fld Tryd.prog 84 0 = some (0, false, 1) := by kernel_rfl
theorem fld84n1 : fld Tryd.prog 84 1 = some (1, false, 1) := by kernel_rfl
theorem fld84n2 : fld Tryd.prog 84 2 = some (2, false, 1) := by kernel_rfl
theorem fld84n3 : fld Tryd.prog 84 3 = some (3, false, 1) := by kernel_rfl
theorem bok84 : bldOk Tryd.prog 84 = true := by kernel_rfl
theorem zro84 : zro Tryd.prog 84 = some (.agg #[.pointer none, .pointer none, .pointer none, .string ⟨#[]⟩]) := by kernel_rfl
theorem shp85 : shp Tryd.prog 85 = some (true, 0) := by kernel_rfl
theorem bok85 : bldOk Tryd.prog 85 = false := by kernel_rfl
theorem zro85 : zro Tryd.prog 85 = some (.agg #[]) := by kernel_rfl
theorem shp86 : shp Tryd.prog 86 = some (true, 0) := by kernel_rfl
theorem fld86n0 : fld Tryd.prog 86 0 = some (0, true, 0) := by kernel_rfl
theorem bok86 : bldOk Tryd.prog 86 = true := by kernel_rfl
theorem zro86 : zro Tryd.prog 86 = some (.agg #[]) := by kernel_rfl
theorem shp87 : shp Tryd.prog 87 = some (true, 0) := by kernel_rfl
theorem fld87n0 : fld Tryd.prog 87 0 = some (0, true, 0) := by kernel_rfl
theorem bok87 : bldOk Tryd.prog 87 = true := by kernel_rfl
theorem zro87 : zro Tryd.prog 87 = some (.agg #[]) := by kernel_rfl
theorem shp89 : shp Tryd.prog 89 = some (false, 1) := by kernel_rfl
theorem zro89 : zro Tryd.prog 89 = some (.int .u8 0) := by kernel_rfl
theorem shp90 : shp Tryd.prog 90 = some (false, 1) := by kernel_rfl
theorem zro90 : zro Tryd.prog 90 = some (.int .u8 0) := by kernel_rfl
theorem shp92 : shp Tryd.prog 92 = some (false, 1) := by kernel_rfl
theorem zro92 : zro Tryd.prog 92 = some (.int .i32 0) := by kernel_rfl
theorem shp93 : shp Tryd.prog 93 = some (false, 1) := by kernel_rfl
theorem zro93 : zro Tryd.prog 93 = some (.int .i32 0) := by kernel_rfl
theorem shp94 : shp Tryd.prog 94 = some (true, 11) := by kernel_rfl
theorem fld94n0 : fld Tryd.prog 94 0 = some (0, false, 1) := by kernel_rfl
theorem fld94n1 : fld Tryd.prog 94 1 = some (1, false, 1) := by kernel_rfl
theorem fld94n2 : fld Tryd.prog 94 2 = some (2, false, 1) := by kernel_rfl
theorem fld94n3 : fld Tryd.prog 94 3 = some (3, false, 1) := by kernel_rfl
theorem fld94n4 : fld Tryd.prog 94 4 = some (4, false, 1) := by kernel_rfl
theorem fld94n5 : fld Tryd.prog 94 5 = some (5, false, 1) := by kernel_rfl
theorem fld94n6 : fld Tryd.prog 94 6 = some (6, false, 1) := by kernel_rfl
theorem fld94n7 : fld Tryd.prog 94 7 = some (7, false, 1) := by kernel_rfl
theorem fld94n8 : fld Tryd.prog 94 8 = some (8, false, 1) := by kernel_rfl
theorem fld94n9 : fld Tryd.prog 94 9 = some (9, false, 1) := by kernel_rfl
theorem fld94n10 : fld Tryd.prog 94 10 = some (10, false, 1) := by kernel_rfl
theorem bok94 : bldOk Tryd.prog 94 = true := by kernel_rfl
theorem zro94 : zro Tryd.prog 94 = some (.agg #[.int .u64 0, .int .u64 0, .int .u32 0, .int .u8 0, .int .u8 0, .int .u8 0, .int .u8 0, .nilFunc, .pointer none, .int .i32 0, .int .i32 0]) := by kernel_rfl
theorem shp95 : shp Tryd.prog 95 = some (true, 11) := by kernel_rfl
theorem fld95n0 : fld Tryd.prog 95 0 = some (0, false, 1) := by kernel_rfl
theorem fld95n1 : fld Tryd.prog 95 1 = some (1, false, 1) := by kernel_rfl
theorem fld95n2 : fld Tryd.prog 95 2 = some (2, false, 1) := by kernel_rfl
theorem fld95n3 : fld Tryd.prog 95 3 = some (3, false, 1) := by kernel_rfl
theorem fld95n4 : fld Tryd.prog 95 4 = some (4, false, 1) := by kernel_rfl
theorem fld95n5 : fld Tryd.prog 95 5 = some (5, false, 1) := by kernel_rfl
theorem fld95n6 : fld Tryd.prog 95 6 = some (6, false, 1) := by kernel_rfl
theorem fld95n7 : fld Tryd.prog 95 7 = some (7, false, 1) := by kernel_rfl
theorem fld95n8 : fld Tryd.prog 95 8 = some (8, false, 1) := by kernel_rfl
theorem fld95n9 : fld Tryd.prog 95 9 = some (9, false, 1) := by kernel_rfl
theorem fld95n10 : fld Tryd.prog 95 10 = some (10, false, 1) := by kernel_rfl
theorem bok95 : bldOk Tryd.prog 95 = true := by kernel_rfl
theorem zro95 : zro Tryd.prog 95 = some (.agg #[.int .u64 0, .int .u64 0, .int .u32 0, .int .u8 0, .int .u8 0, .int .u8 0, .int .u8 0, .nilFunc, .pointer none, .int .i32 0, .int .i32 0]) := by kernel_rfl
theorem cal2 : callable Tryd.prog 2 = true := by kernel_rfl
theorem cal3 : callable Tryd.prog 3 = true := by kernel_rfl
theorem cal4 : callable Tryd.prog 4 = true := by kernel_rfl
theorem cal5 : callable Tryd.prog 5 = true := by kernel_rfl
theorem cal6 : callable Tryd.prog 6 = true := by kernel_rfl
theorem cal7 : callable Tryd.prog 7 = true := by kernel_rfl
theorem cal8 : callable Tryd.prog 8 = true := by kernel_rfl
theorem cal9 : callable Tryd.prog 9 = true := by kernel_rfl
theorem cal10 : callable Tryd.prog 10 = true := by kernel_rfl
theorem cal11 : callable Tryd.prog 11 = true := by kernel_rfl
theorem cal12 : callable Tryd.prog 12 = true := by kernel_rfl
theorem cal13 : callable Tryd.prog 13 = true := by kernel_rfl
theorem cal14 : callable Tryd.prog 14 = true := by kernel_rfl
theorem cal15 : callable Tryd.prog 15 = true := by kernel_rfl
theorem cal16 : callable Tryd.prog 16 = true := by kernel_rfl
theorem cal17 : callable Tryd.prog 17 = true := by kernel_rfl
theorem cal18 : callable Tryd.prog 18 = true := by kernel_rfl
theorem cal19 : callable Tryd.prog 19 = true := by kernel_rfl
theorem cal20 : callable Tryd.prog 20 = true := by kernel_rfl
theorem cal21 : callable Tryd.prog 21 = true := by kernel_rfl
theorem cal22 : callable Tryd.prog 22 = true := by kernel_rfl
theorem cal23 : callable Tryd.prog 23 = true := by kernel_rfl
theorem cal24 : callable Tryd.prog 24 = true := by kernel_rfl
theorem cal25 : callable Tryd.prog 25 = true := by kernel_rfl
theorem cal26 : callable Tryd.prog 26 = true := by kernel_rfl
theorem cal27 : callable Tryd.prog 27 = true := by kernel_rfl
theorem cal28 : callable Tryd.prog 28 = true := by kernel_rfl
theorem cal29 : callable Tryd.prog 29 = true := by kernel_rfl
theorem cal30 : callable Tryd.prog 30 = true := by kernel_rfl
theorem cal31 : callable Tryd.prog 31 = true := by kernel_rfl
theorem cal32 : callable Tryd.prog 32 = true := by kernel_rfl
theorem cal33 : callable Tryd.prog 33 = true := by kernel_rfl
theorem cal34 : callable Tryd.prog 34 = true := by kernel_rfl
theorem cal35 : callable Tryd.prog 35 = true := by kernel_rfl
theorem cal36 : callable Tryd.prog 36 = true := by kernel_rfl
theorem cal37 : callable Tryd.prog 37 = true := by kernel_rfl
theorem cal40 : callable Tryd.prog 40 = true := by kernel_rfl
theorem cal42 : callable Tryd.prog 42 = true := by kernel_rfl
theorem cal43 : callable Tryd.prog 43 = true := by kernel_rfl
theorem cal44 : callable Tryd.prog 44 = true := by kernel_rfl
theorem cal45 : callable Tryd.prog 45 = true := by kernel_rfl
theorem cal69 : callable Tryd.prog 69 = true := by kernel_rfl
theorem cal0 : callable Tryd.prog 0 = false := by kernel_rfl
theorem cal1 : callable Tryd.prog 1 = false := by kernel_rfl
theorem cal38 : callable Tryd.prog 38 = false := by kernel_rfl
theorem cal39 : callable Tryd.prog 39 = false := by kernel_rfl
theorem cal41 : callable Tryd.prog 41 = false := by kernel_rfl
theorem cal46 : callable Tryd.prog 46 = false := by kernel_rfl
theorem cal47 : callable Tryd.prog 47 = false := by kernel_rfl
theorem cal48 : callable Tryd.prog 48 = false := by kernel_rfl
theorem cal49 : callable Tryd.prog 49 = false := by kernel_rfl
theorem cal50 : callable Tryd.prog 50 = false := by kernel_rfl
theorem cal51 : callable Tryd.prog 51 = false := by kernel_rfl
theorem cal52 : callable Tryd.prog 52 = false := by kernel_rfl
theorem cal53 : callable Tryd.prog 53 = false := by kernel_rfl
theorem cal54 : callable Tryd.prog 54 = false := by kernel_rfl
theorem cal55 : callable Tryd.prog 55 = false := by kernel_rfl
theorem cal56 : callable Tryd.prog 56 = false := by kernel_rfl
theorem cal57 : callable Tryd.prog 57 = false := by kernel_rfl
theorem cal58 : callable Tryd.prog 58 = false := by kernel_rfl
theorem cal59 : callable Tryd.prog 59 = false := by kernel_rfl
theorem cal60 : callable Tryd.prog 60 = false := by kernel_rfl
theorem cal61 : callable Tryd.prog 61 = false := by kernel_rfl
theorem cal62 : callable Tryd.prog 62 = false := by kernel_rfl
theorem cal63 : callable Tryd.prog 63 = false := by kernel_rfl
theorem cal64 : callable Tryd.prog 64 = false := by kernel_rfl
theorem cal65 : callable Tryd.prog 65 = false := by kernel_rfl
theorem cal66 : callable Tryd.prog 66 = false := by kernel_rfl
theorem cal67 : callable Tryd.prog 67 = false := by kernel_rfl
theorem cal68 : callable Tryd.prog 68 = false := by kernel_rfl
theorem tyS0 : type_of% (And.intro @shp2 (And.intro @zro2 (And.intro @shp3 (And.intro @zro3 (And.intro @shp4 (And.intro @zro4 (And.intro @shp5 (And.intro @zro5 (And.intro @shp6 (And.intro @zro6 (And.intro @shp7 (And.intro @fld7n0 (And.intro @fld7n1 (And.intro @fld7n2 (And.intro @fld7n3 (And.intro @bok7 (And.intro @zro7 (And.intro @shp8 (And.intro @fld8n0 (And.intro @fld8n1 (And.intro @fld8n2 (And.intro @fld8n3 (And.intro @bok8 (And.intro @zro8 (And.intro @shp9 (And.intro @zro9 (And.intro @shp10 (And.intro @zro10 (And.intro @shp11 (And.intro @zro11 (And.intro @shp12 (And.intro @zro12 (And.intro @shp13 (And.intro @fld13n0 (And.intro @fld13n1 (And.intro @bok13 (And.intro @zro13 (And.intro @shp14 (And.intro @fld14n0 (And.intro @fld14n1 (And.intro @bok14 (And.intro @zro14 (And.intro @shp15 (And.intro @zro15 (And.intro @shp16 (And.intro @zro16 (And.intro @shp17 (And.intro @zro17 (And.intro @shp18 (And.intro @fld18n0 (And.intro @bok18 (And.intro @zro18 (And.intro @shp19 (And.intro @fld19n0 (And.intro @bok19 (And.intro @zro19 (And.intro @shp20 (And.intro @zro20 (And.intro @shp21 (And.intro @zro21 (And.intro @shp22 (And.intro @zro22 (And.intro @slc22 (And.intro @shp24 (And.intro @fld24n0 (And.intro @fld24n1 (And.intro @fld24n2 (And.intro @fld24n3 (And.intro @bok24 (And.intro @sih24 (And.intro @egt24 (And.intro @zro24 (And.intro @shp25 (And.intro @fld25n0 (And.intro @fld25n1 (And.intro @fld25n2 (And.intro @fld25n3 (And.intro @bok25 (And.intro @sih25 (And.intro @egt25 (And.intro @zro25 (And.intro @shp28 (And.intro @zro28 (And.intro @shp32 (And.intro @zro32 (And.intro @slc32 (And.intro @shp38 (And.intro @zro38 (And.intro @shp39 (And.intro @zro39 (And.intro @slc39 (And.intro @shp40 (And.intro @fld40n0 (And.intro @fld40n1 (And.intro @bok40 (And.intro @zro40 (And.intro @shp41 (And.intro @fld41n0 (And.intro @fld41n1 (@bok41)))))))))))))))))))))))))))))))))))))))))))))))))))))))))))))))))))))))))))))))))))))))))))))))))))) := And.intro @shp2 (And.intro @zro2 (And.intro @shp3 (And.intro @zro3 (And.intro @shp4 (And.intro @zro4 (And.intro @shp5 (And.intro @zro5 (And.intro @shp6 (And.intro @zro6 (And.intro @shp7 (And.intro @fld7n0 (And.intro @fld7n1 (And.intro @fld7n2 (And.intro @fld7n3 (And.intro @bok7 (And.intro @zro7 (And.intro @shp8 (And.intro @fld8n0 (And.intro @fld8n1 (And.intro @fld8n2 (And.intro @fld8n3 (And.intro @bok8 (And.intro @zro8 (And.intro @shp9 (And.intro @zro9 (And.intro @shp10 (And.intro @zro10 (And.intro @shp11 (And.intro @zro11 (And.intro @shp12 (And.intro @zro12 (And.intro @shp13 (And.intro @fld13n0 (And.intro @fld13n1 (And.intro @bok13 (And.intro @zro13 (And.intro @shp14 (And.intro @fld14n0 (And.intro @fld14n1 (And.intro @bok14 (And.intro @zro14 (And.intro @shp15 (And.intro @zro15 (And.intro @shp16 (And.intro @zro16 (And.intro @shp17 (And.intro @zro17 (And.intro @shp18 (And.intro @fld18n0 (And.intro @bok18 (And.intro @zro18 (And.intro @shp19 (And.intro @fld19n0 (And.intro @bok19 (And.intro @zro19 (And.intro @shp20 (And.intro @zro20 (And.intro @shp21 (And.intro @zro21 (And.intro @shp22 (And.intro @zro22 (And.intro @slc22 (And.intro @shp24 (And.intro @fld24n0 (And.intro @fld24n1 (And.intro @fld24n2 (And.intro @fld24n3 (And.intro @bok24 (And.intro @sih24 (And.intro @egt24 (And.intro @zro24 (And.intro @shp25 (And.intro @fld25n0 (And.intro @fld25n1 (And.intro @fld25n2 (And.intro @fld25n3 (And.intro @bok25 (And.intro @sih25 (And.intro @egt25 (And.intro @zro25 (And.intro @shp28 (And.intro @zro28 (And.intro @shp32 (And.intro @zro32 (And.intro @slc32 (And.intro @shp38 (And.intro @zro38 (And.intro @shp39 (And.intro @zro39 (And.intro @slc39 (And.intro @shp40 (And.intro @fld40n0 (And.intro @fld40n1 (And.intro @bok40 (And.intro @zro40 (And.intro @shp41 (And.intro @fld41n0 (And.intro @fld41n1 (@bok41)))))))))))))))))))))))))))))))))))))))))))))))))))))))))))))))))))))))))))))))))))))))))))))))))))
theorem tyS1 : type_of% (And.intro @zro41 (And.intro @shp43 (And.intro @zro43 (And.intro @shp44 (And.intro @zro44 (And.intro @shp57 (And.intro @bok57 (And.intro @zro57 (And.intro @shp58 (And.intro @zro58 (And.intro @shp63 (And.intro @zro63 (And.intro @shp68 (And.intro @bok68 (And.intro @zro68 (And.intro @shp69 (And.intro @zro69 (And.intro @shp70 (And.intro @bok70 (And.intro @zro70 (And.intro @shp72 (And.intro @zro72 (And.intro @shp74 (And.intro @zro74 (And.intro @shp81 (And.intro @bok81 (And.intro @zro81 (And.intro @shp82 (And.intro @bok82 (And.intro @zro82 (And.intro @shp83 (And.intro @fld83n0 (And.intro @fld83n1 (And.intro @fld83n2 (And.intro @fld83n3 (And.intro @bok83 (And.intro @zro83 (And.intro @shp84 (And.intro @fld84n0 (And.intro @fld84n1 (And.intro @fld84n2 (And.intro @fld84n3 (And.intro @bok84 (And.intro @zro84 (And.intro @shp85 (And.intro @bok85 (And.intro @zro85 (And.intro @shp86 (And.intro @fld86n0 (And.intro @bok86 (And.intro @zro86 (And.intro @shp87 (And.intro @fld87n0 (And.intro @bok87 (And.intro @zro87 (And.intro @shp89 (And.intro @zro89 (And.intro @shp90 (And.intro @zro90 (And.intro @shp92 (And.intro @zro92 (And.intro @shp93 (And.intro @zro93 (And.intro @shp94 (And.intro @fld94n0 (And.intro @fld94n1 (And.intro @fld94n2 (And.intro @fld94n3 (And.intro @fld94n4 (And.intro @fld94n5 (And.intro @fld94n6 (And.intro @fld94n7 (And.intro @fld94n8 (And.intro @fld94n9 (And.intro @fld94n10 (And.intro @bok94 (And.intro @zro94 (And.intro @shp95 (And.intro @fld95n0 (And.intro @fld95n1 (And.intro @fld95n2 (And.intro @fld95n3 (And.intro @fld95n4 (And.intro @fld95n5 (And.intro @fld95n6 (And.intro @fld95n7 (And.intro @fld95n8 (And.intro @fld95n9 (And.intro @fld95n10 (And.intro @bok95 (And.intro @zro95 (And.intro @cal2 (And.intro @cal3 (And.intro @cal4 (And.intro @cal5 (And.intro @cal6 (And.intro @cal7 (And.intro @cal8 (And.intro @cal9 (@cal10)))))))))))))))))))))))))))))))))))))))))))))))))))))))))))))))))))))))))))))))))))))))))))))))))))) := And.intro @zro41 (And.intro @shp43 (And.intro @zro43 (And.intro @shp44 (And.intro @zro44 (And.intro @shp57 (And.intro @bok57 (And.intro @zro57 (And.intro @shp58 (And.intro @zro58 (And.intro @shp63 (And.intro @zro63 (And.intro @shp68 (And.intro @bok68 (And.intro @zro68 (And.intro @shp69 (And.intro @zro69 (And.intro @shp70 (And.intro @bok70 (And.intro @zro70 (And.intro @shp72 (And.intro @zro72 (And.intro @shp74 (And.intro @zro74 (And.intro @shp81 (And.intro @bok81 (And.intro @zro81 (And.intro @shp82 (And.intro @bok82 (And.intro @zro82 (And.intro @shp83 (And.intro @fld83n0 (And.intro @fld83n1 (And.intro @fld83n2 (And.intro @fld83n3 (And.intro @bok83 (And.intro @zro83 (And.intro @shp84 (And.intro @fld84n0 (And.intro @fld84n1 (And.intro @fld84n2 (And.intro @fld84n3 (And.intro @bok84 (And.intro @zro84 (And.intro @shp85 (And.intro @bok85 (And.intro @zro85 (And.intro @shp86 (And.intro @fld86n0 (And.intro @bok86 (And.intro @zro86 (And.intro @shp87 (And.intro @fld87n0 (And.intro @bok87 (And.intro @zro87 (And.intro @shp89 (And.intro @zro89 (And.intro @shp90 (And.intro @zro90 (And.intro @shp92 (And.intro @zro92 (And.intro @shp93 (And.intro @zro93 (And.intro @shp94 (And.intro @fld94n0 (And.intro @fld94n1 (And.intro @fld94n2 (And.intro @fld94n3 (And.intro @fld94n4 (And.intro @fld94n5 (And.intro @fld94n6 (And.intro @fld94n7 (And.intro @fld94n8 (And.intro @fld94n9 (And.intro @fld94n10 (And.intro @bok94 (And.intro @zro94 (And.intro @shp95 (And.intro @fld95n0 (And.intro @fld95n1 (And.intro @fld95n2 (And.intro @fld95n3 (And.intro @fld95n4 (And.intro @fld95n5 (And.intro @fld95n6 (And.intro @fld95n7 (And.intro @fld95n8 (And.intro @fld95n9 (And.intro @fld95n10 (And.intro @bok95 (And.intro @zro95 (And.intro @cal2 (And.intro @cal3 (And.intro @cal4 (And.intro @cal5 (And.intro @cal6 (And.intro @cal7 (And.intro @cal8 (And.intro @cal9 (@cal10)))))))))))))))))))))))))))))))))))))))))))))))))))))))))))))))))))))))))))))))))))))))))))))))))))
theorem tyS2 : type_of% (And.intro @cal11 (And.intro @cal12 (And.intro @cal13 (And.intro @cal14 (And.intro @cal15 (And.intro @cal16 (And.intro @cal17 (And.intro @cal18 (And.intro @cal19 (And.intro @cal20 (And.intro @cal21 (And.intro @cal22 (And.intro @cal23 (And.intro @cal24 (And.intro @cal25 (And.intro @cal26 (And.intro @cal27 (And.intro @cal28 (And.intro @cal29 (And.intro @cal30 (And.intro @cal31 (And.intro @cal32 (And.intro @cal33 (And.intro @cal34 (And.intro @cal35 (And.intro @cal36 (And.intro @cal37 (And.intro @cal40 (And.intro @cal42 (And.intro @cal43 (And.intro @cal44 (And.intro @cal45 (And.intro @cal69 (And.intro @cal0 (And.intro @cal1 (And.intro @cal38 (And.intro @cal39 (And.intro @cal41 (And.intro @cal46 (And.intro @cal47 (And.intro @cal48 (And.intro @cal49 (And.intro @cal50 (And.intro @cal51 (And.intro @cal52 (And.intro @cal53 (And.intro @cal54 (And.intro @cal55 (And.intro @cal56 (And.intro @cal57 (And.intro @cal58 (And.intro @cal59 (And.intro @cal60 (And.intro @cal61 (And.intro @cal62 (And.intro @cal63 (And.intro @cal64 (And.intro @cal65 (And.intro @cal66 (And.intro @cal67 (And.intro @cal68 (And.intro @Tryd.underlying2 (And.intro @Tryd.underlying3 (And.intro @Tryd.underlying4 (And.intro @Tryd.underlying5 (And.intro @Tryd.underlying6 (And.intro @Tryd.underlying7 (And.intro @Tryd.underlying8 (And.intro @Tryd.underlying9 (And.intro @Tryd.underlying10 (And.intro @Tryd.underlying11 (And.intro @Tryd.underlying12 (And.intro @Tryd.underlying13 (And.intro @Tryd.underlying14 (And.intro @Tryd.underlying15 (And.intro @Tryd.underlying16 (And.intro @Tryd.underlying17 (And.intro @Tryd.underlying18 (And.intro @Tryd.underlying19 (And.intro @Tryd.underlying21 (And.intro @Tryd.underlying22 (And.intro @Tryd.underlying24 (And.intro @Tryd.underlying25 (And.intro @Tryd.underlying28 (And.intro @Tryd.underlying32 (And.intro @Tryd.underlying38 (And.intro @Tryd.underlying39 (And.intro @Tryd.underlying40 (And.intro @Tryd.underlying41 (And.intro @Tryd.underlying57 (And.intro @Tryd.underlying58 (And.intro @Tryd.underlying63 (And.intro @Tryd.underlying68 (And.intro @Tryd.underlying69 (And.intro @Tryd.underlying70 (And.intro @Tryd.underlying72 (And.intro @Tryd.underlying74 (And.intro @Tryd.underlying81 (And.intro @Tryd.underlying82 (@Tryd.underlying83)))))))))))))))))))))))))))))))))))))))))))))))))))))))))))))))))))))))))))))))))))))))))))))))))))) := And.intro @cal11 (And.intro @cal12 (And.intro @cal13 (And.intro @cal14 (And.intro @cal15 (And.intro @cal16 (And.intro @cal17 (And.intro @cal18 (And.intro @cal19 (And.intro @cal20 (And.intro @cal21 (And.intro @cal22 (And.intro @cal23 (And.intro @cal24 (And.intro @cal25 (And.intro @cal26 (And.intro @cal27 (And.intro @cal28 (And.intro @cal29 (And.intro @cal30 (And.intro @cal31 (And.intro @cal32 (And.intro @cal33 (And.intro @cal34 (And.intro @cal35 (And.intro @cal36 (And.intro @cal37 (And.intro @cal40 (And.intro @cal42 (And.intro @cal43 (And.intro @cal44 (And.intro @cal45 (And.intro @cal69 (And.intro @cal0 (And.intro @cal1 (And.intro @cal38 (And.intro @cal39 (And.intro @cal41 (And.intro @cal46 (And.intro @cal47 (And.intro @cal48 (And.intro @cal49 (And.intro @cal50 (And.intro @cal51 (And.intro @cal52 (And.intro @cal53 (And.intro @cal54 (And.intro @cal55 (And.intro @cal56 (And.intro @cal57 (And.intro @cal58 (And.intro @cal59 (And.intro @cal60 (And.intro @cal61 (And.intro @cal62 (And.intro @cal63 (And.intro @cal64 (And.intro @cal65 (And.intro @cal66 (And.intro @cal67 (And.intro @cal68 (And.intro @Tryd.underlying2 (And.intro @Tryd.underlying3 (And.intro @Tryd.underlying4 (And.intro @Tryd.underlying5 (And.intro @Tryd.underlying6 (And.intro @Tryd.underlying7 (And.intro @Tryd.underlying8 (And.intro @Tryd.underlying9 (And.intro @Tryd.underlying10 (And.intro @Tryd.underlying11 (And.intro @Tryd.underlying12 (And.intro @Tryd.underlying13 (And.intro @Tryd.underlying14 (And.intro @Tryd.underlying15 (And.intro @Tryd.underlying16 (And.intro @Tryd.underlying17 (And.intro @Tryd.underlying18 (And.intro @Tryd.underlying19 (And.intro @Tryd.underlying21 (And.intro @Tryd.underlying22 (And.intro @Tryd.underlying24 (And.intro @Tryd.underlying25 (And.intro @Tryd.underlying28 (And.intro @Tryd.underlying32 (And.intro @Tryd.underlying38 (And.intro @Tryd.underlying39 (And.intro @Tryd.underlying40 (And.intro @Tryd.underlying41 (And.intro @Tryd.underlying57 (And.intro @Tryd.underlying58 (And.intro @Tryd.underlying63 (And.intro @Tryd.underlying68 (And.intro @Tryd.underlying69 (And.intro @Tryd.underlying70 (And.intro @Tryd.underlying72 (And.intro @Tryd.underlying74 (And.intro @Tryd.underlying81 (And.intro @Tryd.underlying82 (@Tryd.underlying83)))))))))))))))))))))))))))))))))))))))))))))))))))))))))))))))))))))))))))))))))))))))))))))))))))
theorem tyS3 : type_of% (And.intro @Tryd.underlying84 (And.intro @Tryd.underlying85 (And.intro @Tryd.underlying86 (And.intro @Tryd.underlying87 (And.intro @Tryd.underlying89 (And.intro @Tryd.underlying90 (And.intro @Tryd.underlying92 (And.intro @Tryd.underlying93 (And.intro @Tryd.underlying94 (And.intro @Tryd.underlying95 (And.intro @Tryd.results2 (And.intro @Tryd.results3 (And.intro @Tryd.results4 (And.intro @Tryd.results5 (And.intro @Tryd.results6 (And.intro @Tryd.results7 (And.intro @Tryd.results8 (And.intro @Tryd.results9 (And.intro @Tryd.results10 (And.intro @Tryd.results11 (And.intro @Tryd.results12 (And.intro @Tryd.results13 (And.intro @Tryd.results14 (And.intro @Tryd.results15 (And.intro @Tryd.results16 (And.intro @Tryd.results17 (And.intro @Tryd.results18 (And.intro @Tryd.results19 (And.intro @Tryd.results20 (And.intro @Tryd.results21 (And.intro @Tryd.results22 (And.intro @Tryd.results23 (And.intro @Tryd.results24 (And.intro @Tryd.results25 (And.intro @Tryd.results26 (And.intro @Tryd.results27 (And.intro @Tryd.results28 (And.intro @Tryd.results29 (And.intro @Tryd.results30 (And.intro @Tryd.results31 (And.intro @Tryd.results32 (And.intro @Tryd.results33 (And.intro @Tryd.results34 (And.intro @Tryd.results35 (And.intro @Tryd.results36 (And.intro @Tryd.results37 (And.intro @Tryd.results40 (And.intro @Tryd.results42 (And.intro @Tryd.results43 (And.intro @Tryd.results44 (And.intro @Tryd.results45 (@Tryd.results69)))))))))))))))))))))))))))))))))))))))))))))))))))) := And.intro @Tryd.underlying84 (And.intro @Tryd.underlying85 (And.intro @Tryd.underlying86 (And.intro @Tryd.underlying87 (And.intro @Tryd.underlying89 (And.intro @Tryd.underlying90 (And.intro @Tryd.underlying92 (And.intro @Tryd.underlying93 (And.intro @Tryd.underlying94 (And.intro @Tryd.underlying95 (And.intro @Tryd.results2 (And.intro @Tryd.results3 (And.intro @Tryd.results4 (And.intro @Tryd.results5 (And.intro @Tryd.results6 (And.intro @Tryd.results7 (And.intro @Tryd.results8 (And.intro @Tryd.results9 (And.intro @Tryd.results10 (And.intro @Tryd.results11 (And.intro @Tryd.results12 (And.intro @Tryd.results13 (And.intro @Tryd.results14 (And.intro @Tryd.results15 (And.intro @Tryd.results16 (And.intro @Tryd.results17 (And.intro @Tryd.results18 (And.intro @Tryd.results19 (And.intro @Tryd.results20 (And.intro @Tryd.results21 (And.intro @Tryd.results22 (And.intro @Tryd.results23 (And.intro @Tryd.results24 (And.intro @Tryd.results25 (And.intro @Tryd.results26 (And.intro @Tryd.results27 (And.intro @Tryd.results28 (And.intro @Tryd.results29 (And.intro @Tryd.results30 (And.intro @Tryd.results31 (And.intro @Tryd.results32 (And.intro @Tryd.results33 (And.intro @Tryd.results34 (And.intro @Tryd.results35 (And.intro @Tryd.results36 (And.intro @Tryd.results37 (And.intro @Tryd.results40 (And.intro @Tryd.results42 (And.intro @Tryd.results43 (And.intro @Tryd.results44 (And.intro @Tryd.results45 (@Tryd.results69)))))))))))))))))))))))))))))))))))))))))))))))))))
theorem tyS : type_of% (And.intro @tyS0 (And.intro @tyS1 (And.intro @tyS2 (@tyS3)))) := And.intro @tyS0 (And.intro @tyS1 (And.intro @tyS2 (@tyS3)))
end Go.Proofs.YtilifbndbdanoaaDoor
