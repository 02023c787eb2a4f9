/-
Closed facts on the types and functions of this translation.
Conditions: none.
-/
import Derived.Test.YtejcnpllodgmlaaDoorProg
import Derived.Test.YtejcnpllodgmlaaDoorVmEq
import Derived.KernelRfl
namespace Go.Proofs.YtejcnpllodgmlaaDoor
open Go.Vm
set_option maxRecDepth 100000
theorem shp2 : shp Tryd.prog 2 = some (false, 1) := by kernel_rfl
theorem zro2 : zro Tryd.prog 2 = some (.int .i64 0) := by kernel_rfl
theorem shp3 : shp Tryd.prog 3 = some (false, 1) := by kernel_rfl
theorem zro3 : zro Tryd.prog 3 = some (.int .i64 0) := by kernel_rfl
theorem shp4 : shp Tryd.prog 4 = some (false, 1) := by kernel_rfl
theorem zro4 : zro Tryd.prog 4 = some (.bool false) := by kernel_rfl
theorem shp5 : shp Tryd.prog 5 = some (false, 1) := by kernel_rfl
theorem zro5 : zro Tryd.prog 5 = some (.int .u8 0) := by kernel_rfl
theorem shp6 : shp Tryd.prog 6 = some (false, 1) := by kernel_rfl
theorem zro6 : zro Tryd.prog 6 = some (.int .u8 0) := by kernel_rfl
theorem shp7 : shp Tryd.prog 7 = some (true, 4) := by kernel_rfl
theorem fld7n0 : fld Tryd.prog 7 0 = some (0, false, 1) := by kernel_rfl
theorem fld7n1 : fld Tryd.prog 7 1 = some (1, false, 1) := by kernel_rfl
theorem fld7n2 : fld Tryd.prog 7 2 = some (2, false, 1) := by kernel_rfl
theorem fld7n3 : fld Tryd.prog 7 3 = some (3, false, 1) := by kernel_rfl
theorem bok7 : bldOk Tryd.prog 7 = true := by kernel_rfl
theorem zro7 : zro Tryd.prog 7 = some (.agg #[.int .i64 0, .int .i64 0, .bool false, .int .u8 0]) := by kernel_rfl
theorem shp8 : shp Tryd.prog 8 = some (true, 4) := by kernel_rfl
theorem fld8n0 : fld Tryd.prog 8 0 = some (0, false, 1) := by kernel_rfl
theorem fld8n1 : fld Tryd.prog 8 1 = some (1, false, 1) := by kernel_rfl
theorem fld8n2 : fld Tryd.prog 8 2 = some (2, false, 1) := by kernel_rfl
theorem fld8n3 : fld Tryd.prog 8 3 = some (3, false, 1) := by kernel_rfl
theorem bok8 : bldOk Tryd.prog 8 = true := by kernel_rfl
theorem zro8 : zro Tryd.prog 8 = some (.agg #[.int .i64 0, .int .i64 0, .bool false, .int .u8 0]) := by kernel_rfl
theorem shp9 : shp Tryd.prog 9 = some (false, 1) := by kernel_rfl
theorem zro9 : zro Tryd.prog 9 = some (.string ⟨#[]⟩) := by kernel_rfl
theorem shp10 : shp Tryd.prog 10 = some (false, 1) := by kernel_rfl
theorem zro10 : zro Tryd.prog 10 = some (.string ⟨#[]⟩) := by kernel_rfl
theorem shp11 : shp Tryd.prog 11 = some (false, 1) := by kernel_rfl
theorem zro11 : zro Tryd.prog 11 = some (.string ⟨#[]⟩) := by kernel_rfl
theorem shp12 : shp Tryd.prog 12 = some (false, 1) := by kernel_rfl
theorem zro12 : zro Tryd.prog 12 = some (.int .u64 0) := by kernel_rfl
theorem shp13 : shp Tryd.prog 13 = some (true, 2) := by kernel_rfl
theorem fld13n0 : fld Tryd.prog 13 0 = some (0, false, 1) := by kernel_rfl
theorem fld13n1 : fld Tryd.prog 13 1 = some (1, false, 1) := by kernel_rfl
theorem bok13 : bldOk Tryd.prog 13 = true := by kernel_rfl
theorem zro13 : zro Tryd.prog 13 = some (.agg #[.string ⟨#[]⟩, .int .u64 0]) := by kernel_rfl
theorem shp14 : shp Tryd.prog 14 = some (true, 2) := by kernel_rfl
theorem fld14n0 : fld Tryd.prog 14 0 = some (0, false, 1) := by kernel_rfl
theorem fld14n1 : fld Tryd.prog 14 1 = some (1, false, 1) := by kernel_rfl
theorem bok14 : bldOk Tryd.prog 14 = true := by kernel_rfl
theorem zro14 : zro Tryd.prog 14 = some (.agg #[.string ⟨#[]⟩, .int .u64 0]) := by kernel_rfl
theorem shp15 : shp Tryd.prog 15 = some (false, 1) := by kernel_rfl
theorem zro15 : zro Tryd.prog 15 = some (.pointer none) := by kernel_rfl
theorem shp16 : shp Tryd.prog 16 = some (false, 1) := by kernel_rfl
theorem zro16 : zro Tryd.prog 16 = some (.pointer none) := by kernel_rfl
theorem shp17 : shp Tryd.prog 17 = some (false, 1) := by kernel_rfl
theorem zro17 : zro Tryd.prog 17 = some (.pointer none) := by kernel_rfl
theorem shp18 : shp Tryd.prog 18 = some (true, 1) := by kernel_rfl
theorem fld18n0 : fld Tryd.prog 18 0 = some (0, false, 1) := by kernel_rfl
theorem bok18 : bldOk Tryd.prog 18 = true := by kernel_rfl
theorem zro18 : zro Tryd.prog 18 = some (.agg #[.pointer none]) := by kernel_rfl
theorem shp19 : shp Tryd.prog 19 = some (true, 1) := by kernel_rfl
theorem fld19n0 : fld Tryd.prog 19 0 = some (0, false, 1) := by kernel_rfl
theorem bok19 : bldOk Tryd.prog 19 = true := by kernel_rfl
theorem zro19 : zro Tryd.prog 19 = some (.agg #[.pointer none]) := by kernel_rfl
theorem shp20 : shp Tryd.prog 20 = some (false, 1) := by kernel_rfl
theorem zro20 : zro Tryd.prog 20 = some (.nilIface) := by kernel_rfl
theorem shp21 : shp Tryd.prog 21 = some (false, 1) := by kernel_rfl
theorem zro21 : zro Tryd.prog 21 = some (.int .i32 0) := by kernel_rfl
theorem shp22 : shp Tryd.prog 22 = some (true, 2) := by kernel_rfl
theorem fld22n0 : fld Tryd.prog 22 0 = some (0, false, 1) := by kernel_rfl
theorem fld22n1 : fld Tryd.prog 22 1 = some (1, false, 1) := by kernel_rfl
theorem bok22 : bldOk Tryd.prog 22 = true := by kernel_rfl
theorem sih22 : Tryd.prog.stoodInHeld 22 = false := by kernel_rfl
theorem egt22 : Tryd.prog.eqGuardType Tryd.prog.depth 22 = false := by kernel_rfl
theorem zro22 : zro Tryd.prog 22 = some (.agg #[.int .i64 0, .string ⟨#[]⟩]) := by kernel_rfl
theorem shp23 : shp Tryd.prog 23 = some (true, 2) := by kernel_rfl
theorem fld23n0 : fld Tryd.prog 23 0 = some (0, false, 1) := by kernel_rfl
theorem fld23n1 : fld Tryd.prog 23 1 = some (1, false, 1) := by kernel_rfl
theorem bok23 : bldOk Tryd.prog 23 = true := by kernel_rfl
theorem sih23 : Tryd.prog.stoodInHeld 23 = false := by kernel_rfl
theorem egt23 : Tryd.prog.eqGuardType Tryd.prog.depth 23 = false := by kernel_rfl
theorem zro23 : zro Tryd.prog 23 = some (.agg #[.int .i64 0, .string ⟨#[]⟩]) := by kernel_rfl
theorem shp24 : shp Tryd.prog 24 = some (true, 10) := by kernel_rfl
theorem fld24n0 : fld Tryd.prog 24 0 = some (0, false, 1) := by kernel_rfl
theorem fld24n1 : fld Tryd.prog 24 1 = some (1, false, 1) := by kernel_rfl
theorem fld24n2 : fld Tryd.prog 24 2 = some (2, false, 1) := by kernel_rfl
theorem fld24n3 : fld Tryd.prog 24 3 = some (3, false, 1) := by kernel_rfl
theorem fld24n4 : fld Tryd.prog 24 4 = some (4, false, 1) := by kernel_rfl
theorem fld24n5 : fld Tryd.prog 24 5 = some (5, true, 2) := by kernel_rfl
theorem fld24n6 : fld Tryd.prog 24 6 = some (7, false, 1) := by kernel_rfl
theorem fld24n7 : fld Tryd.prog 24 7 = some (8, false, 1) := by kernel_rfl
theorem fld24n8 : fld Tryd.prog 24 8 = some (9, false, 1) := by kernel_rfl
theorem bok24 : bldOk Tryd.prog 24 = true := by kernel_rfl
theorem sih24 : Tryd.prog.stoodInHeld 24 = false := by kernel_rfl
theorem egt24 : Tryd.prog.eqGuardType Tryd.prog.depth 24 = false := by kernel_rfl
theorem zro24 : zro Tryd.prog 24 = some (.agg #[.string ⟨#[]⟩, .string ⟨#[]⟩, .string ⟨#[]⟩, .string ⟨#[]⟩, .string ⟨#[]⟩, .int .i64 0, .string ⟨#[]⟩, .int .i64 0, .int .i64 0, .int .i64 0]) := by kernel_rfl
theorem shp25 : shp Tryd.prog 25 = some (true, 10) := by kernel_rfl
theorem fld25n0 : fld Tryd.prog 25 0 = some (0, false, 1) := by kernel_rfl
theorem fld25n1 : fld Tryd.prog 25 1 = some (1, false, 1) := by kernel_rfl
theorem fld25n2 : fld Tryd.prog 25 2 = some (2, false, 1) := by kernel_rfl
theorem fld25n3 : fld Tryd.prog 25 3 = some (3, false, 1) := by kernel_rfl
theorem fld25n4 : fld Tryd.prog 25 4 = some (4, false, 1) := by kernel_rfl
theorem fld25n5 : fld Tryd.prog 25 5 = some (5, true, 2) := by kernel_rfl
theorem fld25n6 : fld Tryd.prog 25 6 = some (7, false, 1) := by kernel_rfl
theorem fld25n7 : fld Tryd.prog 25 7 = some (8, false, 1) := by kernel_rfl
theorem fld25n8 : fld Tryd.prog 25 8 = some (9, false, 1) := by kernel_rfl
theorem bok25 : bldOk Tryd.prog 25 = true := by kernel_rfl
theorem sih25 : Tryd.prog.stoodInHeld 25 = false := by kernel_rfl
theorem egt25 : Tryd.prog.eqGuardType Tryd.prog.depth 25 = false := by kernel_rfl
theorem zro25 : zro Tryd.prog 25 = some (.agg #[.string ⟨#[]⟩, .string ⟨#[]⟩, .string ⟨#[]⟩, .string ⟨#[]⟩, .string ⟨#[]⟩, .int .i64 0, .string ⟨#[]⟩, .int .i64 0, .int .i64 0, .int .i64 0]) := by kernel_rfl
theorem shp26 : shp Tryd.prog 26 = some (true, 12) := by kernel_rfl
theorem fld26n0 : fld Tryd.prog 26 0 = some (0, false, 1) := by kernel_rfl
theorem fld26n1 : fld Tryd.prog 26 1 = some (1, false, 1) := by kernel_rfl
theorem fld26n2 : fld Tryd.prog 26 2 = some (2, false, 1) := by kernel_rfl
theorem fld26n3 : fld Tryd.prog 26 3 = some (3, false, 1) := by kernel_rfl
theorem fld26n4 : fld Tryd.prog 26 4 = some (4, false, 1) := by kernel_rfl
theorem fld26n5 : fld Tryd.prog 26 5 = some (5, false, 1) := by kernel_rfl
theorem fld26n6 : fld Tryd.prog 26 6 = some (6, false, 1) := by kernel_rfl
theorem fld26n7 : fld Tryd.prog 26 7 = some (7, true, 2) := by kernel_rfl
theorem fld26n8 : fld Tryd.prog 26 8 = some (9, false, 1) := by kernel_rfl
theorem fld26n9 : fld Tryd.prog 26 9 = some (10, false, 1) := by kernel_rfl
theorem fld26n10 : fld Tryd.prog 26 10 = some (11, false, 1) := by kernel_rfl
theorem bok26 : bldOk Tryd.prog 26 = true := by kernel_rfl
theorem sih26 : Tryd.prog.stoodInHeld 26 = false := by kernel_rfl
theorem egt26 : Tryd.prog.eqGuardType Tryd.prog.depth 26 = false := by kernel_rfl
theorem zro26 : zro Tryd.prog 26 = some (.agg #[.int .i64 0, .string ⟨#[]⟩, .string ⟨#[]⟩, .string ⟨#[]⟩, .string ⟨#[]⟩, .string ⟨#[]⟩, .string ⟨#[]⟩, .int .i64 0, .string ⟨#[]⟩, .int .i64 0, .int .i64 0, .bool false]) := by kernel_rfl
theorem shp27 : shp Tryd.prog 27 = some (true, 12) := by kernel_rfl
theorem fld27n0 : fld Tryd.prog 27 0 = some (0, false, 1) := by kernel_rfl
theorem fld27n1 : fld Tryd.prog 27 1 = some (1, false, 1) := by kernel_rfl
theorem fld27n2 : fld Tryd.prog 27 2 = some (2, false, 1) := by kernel_rfl
theorem fld27n3 : fld Tryd.prog 27 3 = some (3, false, 1) := by kernel_rfl
theorem fld27n4 : fld Tryd.prog 27 4 = some (4, false, 1) := by kernel_rfl
theorem fld27n5 : fld Tryd.prog 27 5 = some (5, false, 1) := by kernel_rfl
theorem fld27n6 : fld Tryd.prog 27 6 = some (6, false, 1) := by kernel_rfl
theorem fld27n7 : fld Tryd.prog 27 7 = some (7, true, 2) := by kernel_rfl
theorem fld27n8 : fld Tryd.prog 27 8 = some (9, false, 1) := by kernel_rfl
theorem fld27n9 : fld Tryd.prog 27 9 = some (10, false, 1) := by kernel_rfl
theorem fld27n10 : fld Tryd.prog 27 10 = some (11, false, 1) := by kernel_rfl
theorem bok27 : bldOk Tryd.prog 27 = true := by kernel_rfl
theorem sih27 : Tryd.prog.stoodInHeld 27 = false := by kernel_rfl
theorem egt27 : Tryd.prog.eqGuardType Tryd.prog.depth 27 = false := by kernel_rfl
theorem zro27 : zro Tryd.prog 27 = some (.agg #[.int .i64 0, .string ⟨#[]⟩, .string ⟨#[]⟩, .string ⟨#[]⟩, .string ⟨#[]⟩, .string ⟨#[]⟩, .string ⟨#[]⟩, .int .i64 0, .string ⟨#[]⟩, .int .i64 0, .int .i64 0, .bool false]) := by kernel_rfl
theorem shp28 : shp Tryd.prog 28 = some (false, 1) := by kernel_rfl
theorem zro28 : zro Tryd.prog 28 = some (.slice none 0 0) := by kernel_rfl
theorem slc28 : slc Tryd.prog 28 = some (3, 1, 8) := by kernel_rfl
theorem shp30 : shp Tryd.prog 30 = some (false, 1) := by kernel_rfl
theorem zro30 : zro Tryd.prog 30 = some (.slice none 0 0) := by kernel_rfl
theorem slc30 : slc Tryd.prog 30 = some (27, 12, 152) := by kernel_rfl
theorem shp31 : shp Tryd.prog 31 = some (false, 1) := by kernel_rfl
theorem zro31 : zro Tryd.prog 31 = some (.int .i64 0) := by kernel_rfl
theorem shp38 : shp Tryd.prog 38 = some (true, 4) := by kernel_rfl
theorem fld38n0 : fld Tryd.prog 38 0 = some (0, false, 1) := by kernel_rfl
theorem fld38n1 : fld Tryd.prog 38 1 = some (1, false, 1) := by kernel_rfl
theorem fld38n2 : fld Tryd.prog 38 2 = some (2, false, 1) := by kernel_rfl
theorem fld38n3 : fld Tryd.prog 38 3 = some (3, false, 1) := by kernel_rfl
theorem bok38 : bldOk Tryd.prog 38 = true := by kernel_rfl
theorem sih38 : Tryd.prog.stoodInHeld 38 = false := by kernel_rfl
theorem egt38 : Tryd.prog.eqGuardType Tryd.prog.depth 38 = false := by kernel_rfl
theorem zro38 : zro Tryd.prog 38 = some (.agg #[.int .i64 0, .int .i64 0, .int .i64 0, .int .i64 0]) := by kernel_rfl
theorem shp39 : shp Tryd.prog 39 = some (true, 4) := by kernel_rfl
theorem fld39n0 : fld Tryd.prog 39 0 = some (0, false, 1) := by kernel_rfl
theorem fld39n1 : fld Tryd.prog 39 1 = some (1, false, 1) := by kernel_rfl
theorem fld39n2 : fld Tryd.prog 39 2 = some (2, false, 1) := by kernel_rfl
theorem fld39n3 : fld Tryd.prog 39 3 = some (3, false, 1) := by kernel_rfl
theorem bok39 : bldOk Tryd.prog 39 = true := by kernel_rfl
theorem sih39 : Tryd.prog.stoodInHeld 39 = false := by kernel_rfl
theorem egt39 : Tryd.prog.eqGuardType Tryd.prog.depth 39 = false := by kernel_rfl
theorem zro39 : zro Tryd.prog 39 = some (.agg #[.int .i64 0, .int .i64 0, .int .i64 0, .int .i64 0]) := by kernel_rfl
theorem shp55 : shp Tryd.prog 55 = some (true, 12) := by kernel_rfl
theorem fld55n0 : fld Tryd.prog 55 0 = some (0, false, 1) := by kernel_rfl
theorem fld55n1 : fld Tryd.prog 55 1 = some (1, false, 1) := by kernel_rfl
theorem fld55n2 : fld Tryd.prog 55 2 = some (2, false, 1) := by kernel_rfl
theorem fld55n3 : fld Tryd.prog 55 3 = some (3, false, 1) := by kernel_rfl
theorem fld55n4 : fld Tryd.prog 55 4 = some (4, false, 1) := by kernel_rfl
theorem fld55n5 : fld Tryd.prog 55 5 = some (5, false, 1) := by kernel_rfl
theorem fld55n6 : fld Tryd.prog 55 6 = some (6, false, 1) := by kernel_rfl
theorem fld55n7 : fld Tryd.prog 55 7 = some (7, true, 2) := by kernel_rfl
theorem fld55n8 : fld Tryd.prog 55 8 = some (9, false, 1) := by kernel_rfl
theorem fld55n9 : fld Tryd.prog 55 9 = some (10, false, 1) := by kernel_rfl
theorem fld55n10 : fld Tryd.prog 55 10 = some (11, false, 1) := by kernel_rfl
theorem bok55 : bldOk Tryd.prog 55 = true := by kernel_rfl
theorem sih55 : Tryd.prog.stoodInHeld 55 = false := by kernel_rfl
theorem egt55 : Tryd.prog.eqGuardType Tryd.prog.depth 55 = false := by kernel_rfl
theorem zro55 : zro Tryd.prog 55 = some (.agg #[.int .i64 0, .string ⟨#[]⟩, .string ⟨#[]⟩, .string ⟨#[]⟩, .string ⟨#[]⟩, .string ⟨#[]⟩, .string ⟨#[]⟩, .int .i64 0, .string ⟨#[]⟩, .int .i64 0, .int .i64 0, .bool false]) := by kernel_rfl
theorem shp56 : shp Tryd.prog 56 = some (false, 1) := by kernel_rfl
theorem zro56 : zro Tryd.prog 56 = some (.slice none 0 0) := by kernel_rfl
theorem slc56 : slc Tryd.prog 56 = some (53, 1, 8) := by kernel_rfl
theorem shp69 : shp Tryd.prog 69 = some (true, 24) := by kernel_rfl
theorem bok69 : bldOk Tryd.prog 69 = false := by kernel_rfl
theorem zro69 : zro Tryd.prog 69 = some (.agg #[.int .u8 0, .int .u8 0, .int .u8 0, .int .u8 0, .int .u8 0, .int .u8 0, .int .u8 0, .int .u8 0, .int .u8 0, .int .u8 0, .int .u8 0, .int .u8 0, .int .u8 0, .int .u8 0, .int .u8 0, .int .u8 0, .int .u8 0, .int .u8 0, .int .u8 0, .int .u8 0, .int .u8 0, .int .u8 0, .int .u8 0, .int .u8 0]) := by kernel_rfl
theorem shp70 : shp Tryd.prog 70 = some (false, 1) := by kernel_rfl
theorem zro70 : zro Tryd.prog 70 = some (.int .u64 0) := by kernel_rfl
theorem shp73 : shp Tryd.prog 73 = some (false, 1) := by kernel_rfl
theorem zro73 : zro Tryd.prog 73 = some (.slice none 0 0) := by kernel_rfl
theorem slc73 : slc Tryd.prog 73 = some (5, 1, 1) := by kernel_rfl
theorem shp78 : shp Tryd.prog 78 = some (true, 20) := by kernel_rfl
theorem bok78 : bldOk Tryd.prog 78 = false := by kernel_rfl
theorem zro78 : zro Tryd.prog 78 = some (.agg #[.int .u64 0, .int .u64 0, .int .u64 0, .int .u64 0, .int .u64 0, .int .u64 0, .int .u64 0, .int .u64 0, .int .u64 0, .int .u64 0, .int .u64 0, .int .u64 0, .int .u64 0, .int .u64 0, .int .u64 0, .int .u64 0, .int .u64 0, .int .u64 0, .int .u64 0, .int .u64 0]) := by kernel_rfl
theorem shp79 : shp Tryd.prog 79 = some (false, 1) := by kernel_rfl
theorem zro79 : zro Tryd.prog 79 = some (.int .u32 0) := by kernel_rfl
theorem shp80 : shp Tryd.prog 80 = some (true, 65) := by kernel_rfl
theorem bok80 : bldOk Tryd.prog 80 = false := by kernel_rfl
theorem zro80 : zro Tryd.prog 80 = some (.agg #[.int .u8 0, .int .u8 0, .int .u8 0, .int .u8 0, .int .u8 0, .int .u8 0, .int .u8 0, .int .u8 0, .int .u8 0, .int .u8 0, .int .u8 0, .int .u8 0, .int .u8 0, .int .u8 0, .int .u8 0, .int .u8 0, .int .u8 0, .int .u8 0, .int .u8 0, .int .u8 0, .int .u8 0, .int .u8 0, .int .u8 0, .int .u8 0, .int .u8 0, .int .u8 0, .int .u8 0, .int .u8 0, .int .u8 0, .int .u8 0, .int .u8 0, .int .u8 0, .int .u8 0, .int .u8 0, .int .u8 0, .int .u8 0, .int .u8 0, .int .u8 0, .int .u8 0, .int .u8 0, .int .u8 0, .int .u8 0, .int .u8 0, .int .u8 0, .int .u8 0, .int .u8 0, .int .u8 0, .int .u8 0, .int .u8 0, .int .u8 0, .int .u8 0, .int .u8 0, .int .u8 0, .int .u8 0, .int .u8 0, .int .u8 0, .int .u8 0, .int .u8 0, .int .u8 0, .int .u8 0, .int .u8 0, .int .u8 0, .int .u8 0, .int .u8 0, .int .u8 0]) := by kernel_rfl
theorem shp82 : shp Tryd.prog 82 = some (false, 1) := by kernel_rfl
theorem zro82 : zro Tryd.prog 82 = some (.int .u64 0) := by kernel_rfl
theorem shp88 : shp Tryd.prog 88 = some (true, 32) := by kernel_rfl
theorem bok88 : bldOk Tryd.prog 88 = false := by kernel_rfl
theorem zro88 : zro Tryd.prog 88 = some (.agg #[.int .u8 0, .int .u8 0, .int .u8 0, .int .u8 0, .int .u8 0, .int .u8 0, .int .u8 0, .int .u8 0, .int .u8 0, .int .u8 0, .int .u8 0, .int .u8 0, .int .u8 0, .int .u8 0, .int .u8 0, .int .u8 0, .int .u8 0, .int .u8 0, .int .u8 0, .int .u8 0, .int .u8 0, .int .u8 0, .int .u8 0, .int .u8 0, .int .u8 0, .int .u8 0, .int .u8 0, .int .u8 0, .int .u8 0, .int .u8 0, .int .u8 0, .int .u8 0]) := by kernel_rfl
theorem shp89 : shp Tryd.prog 89 = some (true, 64) := by kernel_rfl
theorem bok89 : bldOk Tryd.prog 89 = false := by kernel_rfl
theorem zro89 : zro Tryd.prog 89 = some (.agg #[.int .u8 0, .int .u8 0, .int .u8 0, .int .u8 0, .int .u8 0, .int .u8 0, .int .u8 0, .int .u8 0, .int .u8 0, .int .u8 0, .int .u8 0, .int .u8 0, .int .u8 0, .int .u8 0, .int .u8 0, .int .u8 0, .int .u8 0, .int .u8 0, .int .u8 0, .int .u8 0, .int .u8 0, .int .u8 0, .int .u8 0, .int .u8 0, .int .u8 0, .int .u8 0, .int .u8 0, .int .u8 0, .int .u8 0, .int .u8 0, .int .u8 0, .int .u8 0, .int .u8 0, .int .u8 0, .int .u8 0, .int .u8 0, .int .u8 0, .int .u8 0, .int .u8 0, .int .u8 0, .int .u8 0, .int .u8 0, .int .u8 0, .int .u8 0, .int .u8 0, .int .u8 0, .int .u8 0, .int .u8 0, .int .u8 0, .int .u8 0, .int .u8 0, .int .u8 0, .int .u8 0, .int .u8 0, .int .u8 0, .int .u8 0, .int .u8 0, .int .u8 0, .int .u8 0, .int .u8 0, .int .u8 0, .int .u8 0, .int .u8 0, .int .u8 0]) := by kernel_rfl
theorem shp91 : shp Tryd.prog 91 = some (true, 4) := by kernel_rfl
theorem fld91n0 : fld Tryd.prog 91 0 = some (0, false, 1) := by kernel_rfl
theorem fld91n1 : fld Tryd.prog 91 1 = some (1, false, 1) := by kernel_rfl
theorem fld91n2 : fld Tryd.prog 91 2 = some (2, false, 1) := by kernel_rfl
theorem fld91n3 : fld Tryd.prog 91 3 = some (3, false, 1) := by kernel_rfl
theorem bok91 : bldOk Tryd.prog 91 = true := by kernel_rfl
theorem zro91 : zro Tryd.prog 91 = some (.agg #[.pointer none, .pointer none, .pointer none, .string ⟨#[]⟩]) := by kernel_rfl
theorem shp92 : shp Tryd.prog 92 = some (true, 4) := by kernel_rfl
theorem fld92n0 : fld Tryd.prog 92 0 = some (0, false, 1) := by kernel_rfl
theorem fld92n1 : fld Tryd.prog 92 1 = some (1, false, 1) := by kernel_rfl
theorem fld92n2 : fld Tryd.prog 92 2 = some (2, false, 1) := by kernel_rfl
theorem fld92n3 : fld Tryd.prog 92 3 = some (3, false, 1) := by kernel_rfl
theorem bok92 : bldOk Tryd.prog 92 = true := by kernel_rfl
theorem zro92 : zro Tryd.prog 92 = some (.agg #[.pointer none, .pointer none, .pointer none, .string ⟨#[]⟩]) := by kernel_rfl
theorem shp93 : shp Tryd.prog 93 = some (true, 0) := by kernel_rfl
theorem bok93 : bldOk Tryd.prog 93 = false := by kernel_rfl
theorem zro93 : zro Tryd.prog 93 = some (.agg #[]) := by kernel_rfl
theorem shp94 : shp Tryd.prog 94 = some (true, 0) := by kernel_rfl
theorem fld94n0 : fld Tryd.prog 94 0 = some (0, true, 0) := by kernel_rfl
theorem bok94 : bldOk Tryd.prog 94 = true := by kernel_rfl
theorem zro94 : zro Tryd.prog 94 = some (.agg #[]) := by kernel_rfl
theorem shp95 : shp Tryd.prog 95 = some (true, 0) := by kernel_rfl
theorem fld95n0 : fld Tryd.prog 95 0 = some (0, true, 0) := by kernel_rfl
theorem bok95 : bldOk Tryd.prog 95 = true := by kernel_rfl
theorem zro95 : zro Tryd.prog 95 = some (.agg #[]) := by kernel_rfl
theorem shp97 : shp Tryd.prog 97 = some (false, 1) := by kernel_rfl
theorem zro97 : zro Tryd.prog 97 = some (.int .u8 0) := by kernel_rfl
theorem shp98 : shp Tryd.prog 98 = some (false, 1) := by kernel_rfl
theorem zro98 : zro Tryd.prog 98 = some (.int .u8 0) := by kernel_rfl
theorem shp100 : shp Tryd.prog 100 = some (false, 1) := by kernel_rfl
theorem zro100 : zro Tryd.prog 100 = some (.pointer none) := by kernel_rfl
theorem shp101 : shp Tryd.prog 101 = some (false, 1) := by kernel_rfl
theorem zro101 : zro Tryd.prog 101 = some (.int .i32 0) := by kernel_rfl
theorem shp102 : shp Tryd.prog 102 = some (false, 1) := by kernel_rfl
theorem zro102 : zro Tryd.prog 102 = some (.int .i32 0) := by kernel_rfl
theorem shp103 : shp Tryd.prog 103 = some (true, 11) := by kernel_rfl
theorem fld103n0 : fld Tryd.prog 103 0 = some (0, false, 1) := by kernel_rfl
theorem fld103n1 : fld Tryd.prog 103 1 = some (1, false, 1) := by kernel_rfl
theorem fld103n2 : fld Tryd.prog 103 2 = some (2, false, 1) := by kernel_rfl
theorem fld103n3 : fld Tryd.prog 103 3 = some (3, false, 1) := by kernel_rfl
theorem fld103n4 : fld Tryd.prog 103 4 = some (4, false, 1) := by kernel_rfl
theorem fld103n5 : fld Tryd.prog 103 5 = some (5, false, 1) := by kernel_rfl
theorem fld103n6 : fld Tryd.prog 103 6 = some (6, false, 1) := by kernel_rfl
theorem fld103n7 : fld Tryd.prog 103 7 = some (7, false, 1) := by kernel_rfl
theorem fld103n8 : fld Tryd.prog 103 8 = some (8, false, 1) := by kernel_rfl
theorem fld103n9 : fld Tryd.prog 103 9 = some (9, false, 1) := by kernel_rfl
theorem fld103n10 : fld Tryd.prog 103 10 = some (10, false, 1) := by kernel_rfl
theorem bok103 : bldOk Tryd.prog 103 = true := by kernel_rfl
theorem zro103 : zro Tryd.prog 103 = some (.agg #[.int .u64 0, .int .u64 0, .int .u32 0, .int .u8 0, .int .u8 0, .int .u8 0, .int .u8 0, .nilFunc, .pointer none, .int .i32 0, .int .i32 0]) := by kernel_rfl
theorem shp104 : shp Tryd.prog 104 = some (true, 11) := by kernel_rfl
theorem fld104n0 : fld Tryd.prog 104 0 = some (0, false, 1) := by kernel_rfl
theorem fld104n1 : fld Tryd.prog 104 1 = some (1, false, 1) := by kernel_rfl
theorem fld104n2 : fld Tryd.prog 104 2 = some (2, false, 1) := by kernel_rfl
theorem fld104n3 : fld Tryd.prog 104 3 = some (3, false, 1) := by kernel_rfl
theorem fld104n4 : fld Tryd.prog 104 4 = some (4, false, 1) := by kernel_rfl
theorem fld104n5 : fld Tryd.prog 104 5 = some (5, false, 1) := by kernel_rfl
theorem fld104n6 : fld Tryd.prog 104 6 = some (6, false, 1) := by kernel_rfl
theorem fld104n7 : fld Tryd.prog 104 7 = some (7, false, 1) := by kernel_rfl
theorem fld104n8 : fld Tryd.prog 104 8 = some (8, false, 1) := by kernel_rfl
theorem fld104n9 : fld Tryd.prog 104 9 = some (9, false, 1) := by kernel_rfl
theorem fld104n10 : fld Tryd.prog 104 10 = some (10, false, 1) := by kernel_rfl
theorem bok104 : bldOk Tryd.prog 104 = true := by kernel_rfl
theorem zro104 : zro Tryd.prog 104 = some (.agg #[.int .u64 0, .int .u64 0, .int .u32 0, .int .u8 0, .int .u8 0, .int .u8 0, .int .u8 0, .nilFunc, .pointer none, .int .i32 0, .int .i32 0]) := by kernel_rfl
theorem shp105 : shp Tryd.prog 105 = some (false, 1) := by kernel_rfl
theorem zro105 : zro Tryd.prog 105 = some (.pointer none) := by kernel_rfl
theorem cal2 : callable Tryd.prog 2 = true := by kernel_rfl
theorem cal3 : callable Tryd.prog 3 = true := by kernel_rfl
theorem cal4 : callable Tryd.prog 4 = true := by kernel_rfl
theorem cal5 : callable Tryd.prog 5 = true := by kernel_rfl
theorem cal6 : callable Tryd.prog 6 = true := by kernel_rfl
theorem cal7 : callable Tryd.prog 7 = true := by kernel_rfl
theorem cal8 : callable Tryd.prog 8 = true := by kernel_rfl
theorem cal9 : callable Tryd.prog 9 = true := by kernel_rfl
theorem cal10 : callable Tryd.prog 10 = true := by kernel_rfl
theorem cal11 : callable Tryd.prog 11 = true := by kernel_rfl
theorem cal12 : callable Tryd.prog 12 = true := by kernel_rfl
theorem cal13 : callable Tryd.prog 13 = true := by kernel_rfl
theorem cal14 : callable Tryd.prog 14 = true := by kernel_rfl
theorem cal15 : callable Tryd.prog 15 = true := by kernel_rfl
theorem cal16 : callable Tryd.prog 16 = true := by kernel_rfl
theorem cal17 : callable Tryd.prog 17 = true := by kernel_rfl
theorem cal18 : callable Tryd.prog 18 = true := by kernel_rfl
theorem cal19 : callable Tryd.prog 19 = true := by kernel_rfl
theorem cal20 : callable Tryd.prog 20 = true := by kernel_rfl
theorem cal21 : callable Tryd.prog 21 = true := by kernel_rfl
theorem cal22 : callable Tryd.prog 22 = true := by kernel_rfl
theorem cal23 : callable Tryd.prog 23 = true := by kernel_rfl
theorem cal24 : callable Tryd.prog 24 = true := by kernel_rfl
theorem cal25 : callable Tryd.prog 25 = true := by kernel_rfl
theorem cal26 : callable Tryd.prog 26 = true := by kernel_rfl
theorem cal27 : callable Tryd.prog 27 = true := by kernel_rfl
theorem cal28 : callable Tryd.prog 28 = true := by kernel_rfl
theorem cal29 : callable Tryd.prog 29 = true := by kernel_rfl
theorem cal30 : callable Tryd.prog 30 = true := by kernel_rfl
theorem cal31 : callable Tryd.prog 31 = true := by kernel_rfl
theorem cal32 : callable Tryd.prog 32 = true := by kernel_rfl
theorem cal33 : callable Tryd.prog 33 = true := by kernel_rfl
theorem cal34 : callable Tryd.prog 34 = true := by kernel_rfl
theorem cal35 : callable Tryd.prog 35 = true := by kernel_rfl
theorem cal36 : callable Tryd.prog 36 = true := by kernel_rfl
theorem cal37 : callable Tryd.prog 37 = true := by kernel_rfl
theorem cal38 : callable Tryd.prog 38 = true := by kernel_rfl
theorem cal39 : callable Tryd.prog 39 = true := by kernel_rfl
theorem cal40 : callable Tryd.prog 40 = true := by kernel_rfl
theorem cal41 : callable Tryd.prog 41 = true := by kernel_rfl
theorem cal42 : callable Tryd.prog 42 = true := by kernel_rfl
theorem cal43 : callable Tryd.prog 43 = true := by kernel_rfl
theorem cal44 : callable Tryd.prog 44 = true := by kernel_rfl
theorem cal45 : callable Tryd.prog 45 = true := by kernel_rfl
theorem cal46 : callable Tryd.prog 46 = true := by kernel_rfl
theorem cal47 : callable Tryd.prog 47 = true := by kernel_rfl
theorem cal48 : callable Tryd.prog 48 = true := by kernel_rfl
theorem cal49 : callable Tryd.prog 49 = true := by kernel_rfl
theorem cal50 : callable Tryd.prog 50 = true := by kernel_rfl
theorem cal51 : callable Tryd.prog 51 = true := by kernel_rfl
theorem cal52 : callable Tryd.prog 52 = true := by kernel_rfl
theorem cal53 : callable Tryd.prog 53 = true := by kernel_rfl
theorem cal54 : callable Tryd.prog 54 = true := by kernel_rfl
theorem cal55 : callable Tryd.prog 55 = true := by kernel_rfl
theorem cal56 : callable Tryd.prog 56 = true := by kernel_rfl
theorem cal57 : callable Tryd.prog 57 = true := by kernel_rfl
theorem cal58 : callable Tryd.prog 58 = true := by kernel_rfl
theorem cal59 : callable Tryd.prog 59 = true := by kernel_rfl
theorem cal60 : callable Tryd.prog 60 = true := by kernel_rfl
theorem cal61 : callable Tryd.prog 61 = true := by kernel_rfl
theorem cal62 : callable Tryd.prog 62 = true := by kernel_rfl
theorem cal63 : callable Tryd.prog 63 = true := by kernel_rfl
theorem cal64 : callable Tryd.prog 64 = true := by kernel_rfl
theorem cal65 : callable Tryd.prog 65 = true := by kernel_rfl
theorem cal66 : callable Tryd.prog 66 = true := by kernel_rfl
theorem cal67 : callable Tryd.prog 67 = true := by kernel_rfl
theorem cal68 : callable Tryd.prog 68 = true := by kernel_rfl
theorem cal69 : callable Tryd.prog 69 = true := by kernel_rfl
theorem cal70 : callable Tryd.prog 70 = true := by kernel_rfl
theorem cal71 : callable Tryd.prog 71 = true := by kernel_rfl
theorem cal72 : callable Tryd.prog 72 = true := by kernel_rfl
theorem cal73 : callable Tryd.prog 73 = true := by kernel_rfl
theorem cal74 : callable Tryd.prog 74 = true := by kernel_rfl
theorem cal76 : callable Tryd.prog 76 = true := by kernel_rfl
theorem cal77 : callable Tryd.prog 77 = true := by kernel_rfl
theorem cal78 : callable Tryd.prog 78 = true := by kernel_rfl
theorem cal101 : callable Tryd.prog 101 = true := by kernel_rfl
theorem cal0 : callable Tryd.prog 0 = false := by kernel_rfl
theorem cal1 : callable Tryd.prog 1 = false := by kernel_rfl
theorem cal75 : callable Tryd.prog 75 = false := by kernel_rfl
theorem cal79 : callable Tryd.prog 79 = false := by kernel_rfl
theorem cal80 : callable Tryd.prog 80 = false := by kernel_rfl
theorem cal81 : callable Tryd.prog 81 = false := by kernel_rfl
theorem cal82 : callable Tryd.prog 82 = false := by kernel_rfl
theorem cal83 : callable Tryd.prog 83 = false := by kernel_rfl
theorem cal84 : callable Tryd.prog 84 = false := by kernel_rfl
theorem cal85 : callable Tryd.prog 85 = false := by kernel_rfl
theorem cal86 : callable Tryd.prog 86 = false := by kernel_rfl
theorem cal87 : callable Tryd.prog 87 = false := by kernel_rfl
theorem cal88 : callable Tryd.prog 88 = false := by kernel_rfl
theorem cal89 : callable Tryd.prog 89 = false := by kernel_rfl
theorem cal90 : callable Tryd.prog 90 = false := by kernel_rfl
theorem cal91 : callable Tryd.prog 91 = false := by kernel_rfl
theorem cal92 : callable Tryd.prog 92 = false := by kernel_rfl
theorem cal93 : callable Tryd.prog 93 = false := by kernel_rfl
theorem cal94 : callable Tryd.prog 94 = false := by kernel_rfl
theorem cal95 : callable Tryd.prog 95 = false := by kernel_rfl
theorem cal96 : callable Tryd.prog 96 = false := by kernel_rfl
theorem cal97 : callable Tryd.prog 97 = false := by kernel_rfl
theorem cal98 : callable Tryd.prog 98 = false := by kernel_rfl
theorem cal99 : callable Tryd.prog 99 = false := by kernel_rfl
theorem cal100 : callable Tryd.prog 100 = false := by kernel_rfl
theorem tyS0 : type_of% (And.intro @shp2 (And.intro @zro2 (And.intro @shp3 (And.intro @zro3 (And.intro @shp4 (And.intro @zro4 (And.intro @shp5 (And.intro @zro5 (And.intro @shp6 (And.intro @zro6 (And.intro @shp7 (And.intro @fld7n0 (And.intro @fld7n1 (And.intro @fld7n2 (And.intro @fld7n3 (And.intro @bok7 (And.intro @zro7 (And.intro @shp8 (And.intro @fld8n0 (And.intro @fld8n1 (And.intro @fld8n2 (And.intro @fld8n3 (And.intro @bok8 (And.intro @zro8 (And.intro @shp9 (And.intro @zro9 (And.intro @shp10 (And.intro @zro10 (And.intro @shp11 (And.intro @zro11 (And.intro @shp12 (And.intro @zro12 (And.intro @shp13 (And.intro @fld13n0 (And.intro @fld13n1 (And.intro @bok13 (And.intro @zro13 (And.intro @shp14 (And.intro @fld14n0 (And.intro @fld14n1 (And.intro @bok14 (And.intro @zro14 (And.intro @shp15 (And.intro @zro15 (And.intro @shp16 (And.intro @zro16 (And.intro @shp17 (And.intro @zro17 (And.intro @shp18 (And.intro @fld18n0 (And.intro @bok18 (And.intro @zro18 (And.intro @shp19 (And.intro @fld19n0 (And.intro @bok19 (And.intro @zro19 (And.intro @shp20 (And.intro @zro20 (And.intro @shp21 (And.intro @zro21 (And.intro @shp22 (And.intro @fld22n0 (And.intro @fld22n1 (And.intro @bok22 (And.intro @sih22 (And.intro @egt22 (And.intro @zro22 (And.intro @shp23 (And.intro @fld23n0 (And.intro @fld23n1 (And.intro @bok23 (And.intro @sih23 (And.intro @egt23 (And.intro @zro23 (And.intro @shp24 (And.intro @fld24n0 (And.intro @fld24n1 (And.intro @fld24n2 (And.intro @fld24n3 (And.intro @fld24n4 (And.intro @fld24n5 (And.intro @fld24n6 (And.intro @fld24n7 (And.intro @fld24n8 (And.intro @bok24 (And.intro @sih24 (And.intro @egt24 (And.intro @zro24 (And.intro @shp25 (And.intro @fld25n0 (And.intro @fld25n1 (And.intro @fld25n2 (And.intro @fld25n3 (And.intro @fld25n4 (And.intro @fld25n5 (And.intro @fld25n6 (And.intro @fld25n7 (And.intro @fld25n8 (And.intro @bok25 (@sih25)))))))))))))))))))))))))))))))))))))))))))))))))))))))))))))))))))))))))))))))))))))))))))))))))))) := And.intro @shp2 (And.intro @zro2 (And.intro @shp3 (And.intro @zro3 (And.intro @shp4 (And.intro @zro4 (And.intro @shp5 (And.intro @zro5 (And.intro @shp6 (And.intro @zro6 (And.intro @shp7 (And.intro @fld7n0 (And.intro @fld7n1 (And.intro @fld7n2 (And.intro @fld7n3 (And.intro @bok7 (And.intro @zro7 (And.intro @shp8 (And.intro @fld8n0 (And.intro @fld8n1 (And.intro @fld8n2 (And.intro @fld8n3 (And.intro @bok8 (And.intro @zro8 (And.intro @shp9 (And.intro @zro9 (And.intro @shp10 (And.intro @zro10 (And.intro @shp11 (And.intro @zro11 (And.intro @shp12 (And.intro @zro12 (And.intro @shp13 (And.intro @fld13n0 (And.intro @fld13n1 (And.intro @bok13 (And.intro @zro13 (And.intro @shp14 (And.intro @fld14n0 (And.intro @fld14n1 (And.intro @bok14 (And.intro @zro14 (And.intro @shp15 (And.intro @zro15 (And.intro @shp16 (And.intro @zro16 (And.intro @shp17 (And.intro @zro17 (And.intro @shp18 (And.intro @fld18n0 (And.intro @bok18 (And.intro @zro18 (And.intro @shp19 (And.intro @fld19n0 (And.intro @bok19 (And.intro @zro19 (And.intro @shp20 (And.intro @zro20 (And.intro @shp21 (And.intro @zro21 (And.intro @shp22 (And.intro @fld22n0 (And.intro @fld22n1 (And.intro @bok22 (And.intro @sih22 (And.intro @egt22 (And.intro @zro22 (And.intro @shp23 (And.intro @fld23n0 (And.intro @fld23n1 (And.intro @bok23 (And.intro @sih23 (And.intro @egt23 (And.intro @zro23 (And.intro @shp24 (And.intro @fld24n0 (And.intro @fld24n1 (And.intro @fld24n2 (And.intro @fld24n3 (And.intro @fld24n4 (And.intro @fld24n5 (And.intro @fld24n6 (And.intro @fld24n7 (And.intro @fld24n8 (And.intro @bok24 (And.intro @sih24 (And.intro @egt24 (And.intro @zro24 (And.intro @shp25 (And.intro @fld25n0 (And.intro @fld25n1 (And.intro @fld25n2 (And.intro @fld25n3 (And.intro @fld25n4 (And.intro @fld25n5 (And.intro @fld25n6 (And.intro @fld25n7 (And.intro @fld25n8 (And.intro @bok25 (@sih25)))))))))))))))))))))))))))))))))))))))))))))))))))))))))))))))))))))))))))))))))))))))))))))))))))
theorem tyS1 : type_of% (And.intro @egt25 (And.intro @zro25 (And.intro @shp26 (And.intro @fld26n0 (And.intro @fld26n1 (And.intro @fld26n2 (And.intro @fld26n3 (And.intro @fld26n4 (And.intro @fld26n5 (And.intro @fld26n6 (And.intro @fld26n7 (And.intro @fld26n8 (And.intro @fld26n9 (And.intro @fld26n10 (And.intro @bok26 (And.intro @sih26 (And.intro @egt26 (And.intro @zro26 (And.intro @shp27 (And.intro @fld27n0 (And.intro @fld27n1 (And.intro @fld27n2 (And.intro @fld27n3 (And.intro @fld27n4 (And.intro @fld27n5 (And.intro @fld27n6 (And.intro @fld27n7 (And.intro @fld27n8 (And.intro @fld27n9 (And.intro @fld27n10 (And.intro @bok27 (And.intro @sih27 (And.intro @egt27 (And.intro @zro27 (And.intro @shp28 (And.intro @zro28 (And.intro @slc28 (And.intro @shp30 (And.intro @zro30 (And.intro @slc30 (And.intro @shp31 (And.intro @zro31 (And.intro @shp38 (And.intro @fld38n0 (And.intro @fld38n1 (And.intro @fld38n2 (And.intro @fld38n3 (And.intro @bok38 (And.intro @sih38 (And.intro @egt38 (And.intro @zro38 (And.intro @shp39 (And.intro @fld39n0 (And.intro @fld39n1 (And.intro @fld39n2 (And.intro @fld39n3 (And.intro @bok39 (And.intro @sih39 (And.intro @egt39 (And.intro @zro39 (And.intro @shp55 (And.intro @fld55n0 (And.intro @fld55n1 (And.intro @fld55n2 (And.intro @fld55n3 (And.intro @fld55n4 (And.intro @fld55n5 (And.intro @fld55n6 (And.intro @fld55n7 (And.intro @fld55n8 (And.intro @fld55n9 (And.intro @fld55n10 (And.intro @bok55 (And.intro @sih55 (And.intro @egt55 (And.intro @zro55 (And.intro @shp56 (And.intro @zro56 (And.intro @slc56 (And.intro @shp69 (And.intro @bok69 (And.intro @zro69 (And.intro @shp70 (And.intro @zro70 (And.intro @shp73 (And.intro @zro73 (And.intro @slc73 (And.intro @shp78 (And.intro @bok78 (And.intro @zro78 (And.intro @shp79 (And.intro @zro79 (And.intro @shp80 (And.intro @bok80 (And.intro @zro80 (And.intro @shp82 (And.intro @zro82 (And.intro @shp88 (And.intro @bok88 (@zro88)))))))))))))))))))))))))))))))))))))))))))))))))))))))))))))))))))))))))))))))))))))))))))))))))))) := And.intro @egt25 (And.intro @zro25 (And.intro @shp26 (And.intro @fld26n0 (And.intro @fld26n1 (And.intro @fld26n2 (And.intro @fld26n3 (And.intro @fld26n4 (And.intro @fld26n5 (And.intro @fld26n6 (And.intro @fld26n7 (And.intro @fld26n8 (And.intro @fld26n9 (And.intro @fld26n10 (And.intro @bok26 (And.intro @sih26 (And.intro @egt26 (And.intro @zro26 (And.intro @shp27 (And.intro @fld27n0 (And.intro @fld27n1 (And.intro @fld27n2 (And.intro @fld27n3 (And.intro @fld27n4 (And.intro @fld27n5 (And.intro @fld27n6 (And.intro @fld27n7 (And.intro @fld27n8 (And.intro @fld27n9 (And.intro @fld27n10 (And.intro @bok27 (And.intro @sih27 (And.intro @egt27 (And.intro @zro27 (And.intro @shp28 (And.intro @zro28 (And.intro @slc28 (And.intro @shp30 (And.intro @zro30 (And.intro @slc30 (And.intro @shp31 (And.intro @zro31 (And.intro @shp38 (And.intro @fld38n0 (And.intro @fld38n1 (And.intro @fld38n2 (And.intro @fld38n3 (And.intro @bok38 (And.intro @sih38 (And.intro @egt38 (And.intro @zro38 (And.intro @shp39 (And.intro @fld39n0 (And.intro @fld39n1 (And.intro @fld39n2 (And.intro @fld39n3 (And.intro @bok39 (And.intro @sih39 (And.intro @egt39 (And.intro @zro39 (And.intro @shp55 (And.intro @fld55n0 (And.intro @fld55n1 (And.intro @fld55n2 (And.intro @fld55n3 (And.intro @fld55n4 (And.intro @fld55n5 (And.intro @fld55n6 (And.intro @fld55n7 (And.intro @fld55n8 (And.intro @fld55n9 (And.intro @fld55n10 (And.intro @bok55 (And.intro @sih55 (And.intro @egt55 (And.intro @zro55 (And.intro @shp56 (And.intro @zro56 (And.intro @slc56 (And.intro @shp69 (And.intro @bok69 (And.intro @zro69 (And.intro @shp70 (And.intro @zro70 (And.intro @shp73 (And.intro @zro73 (And.intro @slc73 (And.intro @shp78 (And.intro @bok78 (And.intro @zro78 (And.intro @shp79 (And.intro @zro79 (And.intro @shp80 (And.intro @bok80 (And.intro @zro80 (And.intro @shp82 (And.intro @zro82 (And.intro @shp88 (And.intro @bok88 (@zro88)))))))))))))))))))))))))))))))))))))))))))))))))))))))))))))))))))))))))))))))))))))))))))))))))))
theorem tyS2 : type_of% (And.intro @shp89 (And.intro @bok89 (And.intro @zro89 (And.intro @shp91 (And.intro @fld91n0 (And.intro @fld91n1 (And.intro @fld91n2 (And.intro @fld91n3 (And.intro @bok91 (And.intro @zro91 (And.intro @shp92 (And.intro @fld92n0 (And.intro @fld92n1 (And.intro @fld92n2 (And.intro @fld92n3 (And.intro @bok92 (And.intro @zro92 (And.intro @shp93 (And.intro @bok93 (And.intro @zro93 (And.intro @shp94 (And.intro @fld94n0 (And.intro @bok94 (And.intro @zro94 (And.intro @shp95 (And.intro @fld95n0 (And.intro @bok95 (And.intro @zro95 (And.intro @shp97 (And.intro @zro97 (And.intro @shp98 (And.intro @zro98 (And.intro @shp100 (And.intro @zro100 (And.intro @shp101 (And.intro @zro101 (And.intro @shp102 (And.intro @zro102 (And.intro @shp103 (And.intro @fld103n0 (And.intro @fld103n1 (And.intro @fld103n2 (And.intro @fld103n3 (And.intro @fld103n4 (And.intro @fld103n5 (And.intro @fld103n6 (And.intro @fld103n7 (And.intro @fld103n8 (And.intro @fld103n9 (And.intro @fld103n10 (And.intro @bok103 (And.intro @zro103 (And.intro @shp104 (And.intro @fld104n0 (And.intro @fld104n1 (And.intro @fld104n2 (And.intro @fld104n3 (And.intro @fld104n4 (And.intro @fld104n5 (And.intro @fld104n6 (And.intro @fld104n7 (And.intro @fld104n8 (And.intro @fld104n9 (And.intro @fld104n10 (And.intro @bok104 (And.intro @zro104 (And.intro @shp105 (And.intro @zro105 (And.intro @cal2 (And.intro @cal3 (And.intro @cal4 (And.intro @cal5 (And.intro @cal6 (And.intro @cal7 (And.intro @cal8 (And.intro @cal9 (And.intro @cal10 (And.intro @cal11 (And.intro @cal12 (And.intro @cal13 (And.intro @cal14 (And.intro @cal15 (And.intro @cal16 (And.intro @cal17 (And.intro @cal18 (And.intro @cal19 (And.intro @cal20 (And.intro @cal21 (And.intro @cal22 (And.intro @cal23 (And.intro @cal24 (And.intro @cal25 (And.intro @cal26 (And.intro @cal27 (And.intro @cal28 (And.intro @cal29 (And.intro @cal30 (And.intro @cal31 (And.intro @cal32 (@cal33)))))))))))))))))))))))))))))))))))))))))))))))))))))))))))))))))))))))))))))))))))))))))))))))))))) := And.intro @shp89 (And.intro @bok89 (And.intro @zro89 (And.intro @shp91 (And.intro @fld91n0 (And.intro @fld91n1 (And.intro @fld91n2 (And.intro @fld91n3 (And.intro @bok91 (And.intro @zro91 (And.intro @shp92 (And.intro @fld92n0 (And.intro @fld92n1 (And.intro @fld92n2 (And.intro @fld92n3 (And.intro @bok92 (And.intro @zro92 (And.intro @shp93 (And.intro @bok93 (And.intro @zro93 (And.intro @shp94 (And.intro @fld94n0 (And.intro @bok94 (And.intro @zro94 (And.intro @shp95 (And.intro @fld95n0 (And.intro @bok95 (And.intro @zro95 (And.intro @shp97 (And.intro @zro97 (And.intro @shp98 (And.intro @zro98 (And.intro @shp100 (And.intro @zro100 (And.intro @shp101 (And.intro @zro101 (And.intro @shp102 (And.intro @zro102 (And.intro @shp103 (And.intro @fld103n0 (And.intro @fld103n1 (And.intro @fld103n2 (And.intro @fld103n3 (And.intro @fld103n4 (And.intro @fld103n5 (And.intro @fld103n6 (And.intro @fld103n7 (And.intro @fld103n8 (And.intro @fld103n9 (And.intro @fld103n10 (And.intro @bok103 (And.intro @zro103 (And.intro @shp104 (And.intro @fld104n0 (And.intro @fld104n1 (And.intro @fld104n2 (And.intro @fld104n3 (And.intro @fld104n4 (And.intro @fld104n5 (And.intro @fld104n6 (And.intro @fld104n7 (And.intro @fld104n8 (And.intro @fld104n9 (And.intro @fld104n10 (And.intro @bok104 (And.intro @zro104 (And.intro @shp105 (And.intro @zro105 (And.intro @cal2 (And.intro @cal3 (And.intro @cal4 (And.intro @cal5 (And.intro @cal6 (And.intro @cal7 (And.intro @cal8 (And.intro @cal9 (And.intro @cal10 (And.intro @cal11 (And.intro @cal12 (And.intro @cal13 (And.intro @cal14 (And.intro @cal15 (And.intro @cal16 (And.intro @cal17 (And.intro @cal18 (And.intro @cal19 (And.intro @cal20 (And.intro @cal21 (And.intro @cal22 (And.intro @cal23 (And.intro @cal24 (And.intro @cal25 (And.intro @cal26 (And.intro @cal27 (And.intro @cal28 (And.intro @cal29 (And.intro @cal30 (And.intro @cal31 (And.intro @cal32 (@cal33)))))))))))))))))))))))))))))))))))))))))))))))))))))))))))))))))))))))))))))))))))))))))))))))))))
theorem tyS3 : type_of% (And.intro @cal34 (And.intro @cal35 (And.intro @cal36 (And.intro @cal37 (And.intro @cal38 (And.intro @cal39 (And.intro @cal40 (And.intro @cal41 (And.intro @cal42 (And.intro @cal43 (And.intro @cal44 (And.intro @cal45 (And.intro @cal46 (And.intro @cal47 (And.intro @cal48 (And.intro @cal49 (And.intro @cal50 (And.intro @cal51 (And.intro @cal52 (And.intro @cal53 (And.intro @cal54 (And.intro @cal55 (And.intro @cal56 (And.intro @cal57 (And.intro @cal58 (And.intro @cal59 (And.intro @cal60 (And.intro @cal61 (And.intro @cal62 (And.intro @cal63 (And.intro @cal64 (And.intro @cal65 (And.intro @cal66 (And.intro @cal67 (And.intro @cal68 (And.intro @cal69 (And.intro @cal70 (And.intro @cal71 (And.intro @cal72 (And.intro @cal73 (And.intro @cal74 (And.intro @cal76 (And.intro @cal77 (And.intro @cal78 (And.intro @cal101 (And.intro @cal0 (And.intro @cal1 (And.intro @cal75 (And.intro @cal79 (And.intro @cal80 (And.intro @cal81 (And.intro @cal82 (And.intro @cal83 (And.intro @cal84 (And.intro @cal85 (And.intro @cal86 (And.intro @cal87 (And.intro @cal88 (And.intro @cal89 (And.intro @cal90 (And.intro @cal91 (And.intro @cal92 (And.intro @cal93 (And.intro @cal94 (And.intro @cal95 (And.intro @cal96 (And.intro @cal97 (And.intro @cal98 (And.intro @cal99 (And.intro @cal100 (And.intro @Tryd.underlying2 (And.intro @Tryd.underlying3 (And.intro @Tryd.underlying4 (And.intro @Tryd.underlying5 (And.intro @Tryd.underlying6 (And.intro @Tryd.underlying7 (And.intro @Tryd.underlying8 (And.intro @Tryd.underlying9 (And.intro @Tryd.underlying10 (And.intro @Tryd.underlying11 (And.intro @Tryd.underlying12 (And.intro @Tryd.underlying13 (And.intro @Tryd.underlying14 (And.intro @Tryd.underlying15 (And.intro @Tryd.underlying16 (And.intro @Tryd.underlying17 (And.intro @Tryd.underlying18 (And.intro @Tryd.underlying19 (And.intro @Tryd.underlying21 (And.intro @Tryd.underlying22 (And.intro @Tryd.underlying23 (And.intro @Tryd.underlying24 (And.intro @Tryd.underlying25 (And.intro @Tryd.underlying26 (And.intro @Tryd.underlying27 (And.intro @Tryd.underlying28 (And.intro @Tryd.underlying30 (And.intro @Tryd.underlying31 (And.intro @Tryd.underlying38 (@Tryd.underlying39)))))))))))))))))))))))))))))))))))))))))))))))))))))))))))))))))))))))))))))))))))))))))))))))))))) := And.intro @cal34 (And.intro @cal35 (And.intro @cal36 (And.intro @cal37 (And.intro @cal38 (And.intro @cal39 (And.intro @cal40 (And.intro @cal41 (And.intro @cal42 (And.intro @cal43 (And.intro @cal44 (And.intro @cal45 (And.intro @cal46 (And.intro @cal47 (And.intro @cal48 (And.intro @cal49 (And.intro @cal50 (And.intro @cal51 (And.intro @cal52 (And.intro @cal53 (And.intro @cal54 (And.intro @cal55 (And.intro @cal56 (And.intro @cal57 (And.intro @cal58 (And.intro @cal59 (And.intro @cal60 (And.intro @cal61 (And.intro @cal62 (And.intro @cal63 (And.intro @cal64 (And.intro @cal65 (And.intro @cal66 (And.intro @cal67 (And.intro @cal68 (And.intro @cal69 (And.intro @cal70 (And.intro @cal71 (And.intro @cal72 (And.intro @cal73 (And.intro @cal74 (And.intro @cal76 (And.intro @cal77 (And.intro @cal78 (And.intro @cal101 (And.intro @cal0 (And.intro @cal1 (And.intro @cal75 (And.intro @cal79 (And.intro @cal80 (And.intro @cal81 (And.intro @cal82 (And.intro @cal83 (And.intro @cal84 (And.intro @cal85 (And.intro @cal86 (And.intro @cal87 (And.intro @cal88 (And.intro @cal89 (And.intro @cal90 (And.intro @cal91 (And.intro @cal92 (And.intro @cal93 (And.intro @cal94 (And.intro @cal95 (And.intro @cal96 (And.intro @cal97 (And.intro @cal98 (And.intro @cal99 (And.intro @cal100 (And.intro @Tryd.underlying2 (And.intro @Tryd.underlying3 (And.intro @Tryd.underlying4 (And.intro @Tryd.underlying5 (And.intro @Tryd.underlying6 (And.intro @Tryd.underlying7 (And.intro @Tryd.underlying8 (And.intro @Tryd.underlying9 (And.intro @Tryd.underlying10 (And.intro @Tryd.underlying11 (And.intro @Tryd.underlying12 (And.intro @Tryd.underlying13 (And.intro @Tryd.underlying14 (And.intro @Tryd.underlying15 (And.intro @Tryd.underlying16 (And.intro @Tryd.underlying17 (And.intro @Tryd.underlying18 (And.intro @Tryd.underlying19 (And.intro @Tryd.underlying21 (And.intro @Tryd.underlying22 (And.intro @Tryd.underlying23 (And.intro @Tryd.underlying24 (And.intro @Tryd.underlying25 (And.intro @Tryd.underlying26 (And.intro @Tryd.underlying27 (And.intro @Tryd.underlying28 (And.intro @Tryd.underlying30 (And.intro @Tryd.underlying31 (And.intro @Tryd.underlying38 (@Tryd.underlying39)))))))))))))))))))))))))))))))))))))))))))))))))))))))))))))))))))))))))))))))))))))))))))))))))))
theorem tyS4 : type_of% (And.intro @Tryd.underlying55 (And.intro @Tryd.underlying56 (And.intro @Tryd.underlying69 (And.intro @Tryd.underlying70 (And.intro @Tryd.underlying73 (And.intro @Tryd.underlying78 (And.intro @Tryd.underlying79 (And.intro @Tryd.underlying80 (And.intro @Tryd.underlying82 (And.intro @Tryd.underlying88 (And.intro @Tryd.underlying89 (And.intro @Tryd.underlying91 (And.intro @Tryd.underlying92 (And.intro @Tryd.underlying93 (And.intro @Tryd.underlying94 (And.intro @Tryd.underlying95 (And.intro @Tryd.underlying97 (And.intro @Tryd.underlying98 (And.intro @Tryd.underlying100 (And.intro @Tryd.underlying101 (And.intro @Tryd.underlying102 (And.intro @Tryd.underlying103 (And.intro @Tryd.underlying104 (And.intro @Tryd.underlying105 (And.intro @Tryd.results2 (And.intro @Tryd.results3 (And.intro @Tryd.results4 (And.intro @Tryd.results5 (And.intro @Tryd.results6 (And.intro @Tryd.results7 (And.intro @Tryd.results8 (And.intro @Tryd.results9 (And.intro @Tryd.results10 (And.intro @Tryd.results11 (And.intro @Tryd.results12 (And.intro @Tryd.results13 (And.intro @Tryd.results14 (And.intro @Tryd.results15 (And.intro @Tryd.results16 (And.intro @Tryd.results17 (And.intro @Tryd.results18 (And.intro @Tryd.results19 (And.intro @Tryd.results20 (And.intro @Tryd.results21 (And.intro @Tryd.results22 (And.intro @Tryd.results23 (And.intro @Tryd.results24 (And.intro @Tryd.results25 (And.intro @Tryd.results26 (And.intro @Tryd.results27 (And.intro @Tryd.results28 (And.intro @Tryd.results29 (And.intro @Tryd.results30 (And.intro @Tryd.results31 (And.intro @Tryd.results32 (And.intro @Tryd.results33 (And.intro @Tryd.results34 (And.intro @Tryd.results35 (And.intro @Tryd.results36 (And.intro @Tryd.results37 (And.intro @Tryd.results38 (And.intro @Tryd.results39 (And.intro @Tryd.results40 (And.intro @Tryd.results41 (And.intro @Tryd.results42 (And.intro @Tryd.results43 (And.intro @Tryd.results44 (And.intro @Tryd.results45 (And.intro @Tryd.results46 (And.intro @Tryd.results47 (And.intro @Tryd.results48 (And.intro @Tryd.results49 (And.intro @Tryd.results50 (And.intro @Tryd.results51 (And.intro @Tryd.results52 (And.intro @Tryd.results53 (And.intro @Tryd.results54 (And.intro @Tryd.results55 (And.intro @Tryd.results56 (And.intro @Tryd.results57 (And.intro @Tryd.results58 (And.intro @Tryd.results59 (And.intro @Tryd.results60 (And.intro @Tryd.results61 (And.intro @Tryd.results62 (And.intro @Tryd.results63 (And.intro @Tryd.results64 (And.intro @Tryd.results65 (And.intro @Tryd.results66 (And.intro @Tryd.results67 (And.intro @Tryd.results68 (And.intro @Tryd.results69 (And.intro @Tryd.results70 (And.intro @Tryd.results71 (And.intro @Tryd.results72 (And.intro @Tryd.results73 (And.intro @Tryd.results74 (And.intro @Tryd.results76 (And.intro @Tryd.results77 (@Tryd.results78)))))))))))))))))))))))))))))))))))))))))))))))))))))))))))))))))))))))))))))))))))))))))))))))))))) := And.intro @Tryd.underlying55 (And.intro @Tryd.underlying56 (And.intro @Tryd.underlying69 (And.intro @Tryd.underlying70 (And.intro @Tryd.underlying73 (And.intro @Tryd.underlying78 (And.intro @Tryd.underlying79 (And.intro @Tryd.underlying80 (And.intro @Tryd.underlying82 (And.intro @Tryd.underlying88 (And.intro @Tryd.underlying89 (And.intro @Tryd.underlying91 (And.intro @Tryd.underlying92 (And.intro @Tryd.underlying93 (And.intro @Tryd.underlying94 (And.intro @Tryd.underlying95 (And.intro @Tryd.underlying97 (And.intro @Tryd.underlying98 (And.intro @Tryd.underlying100 (And.intro @Tryd.underlying101 (And.intro @Tryd.underlying102 (And.intro @Tryd.underlying103 (And.intro @Tryd.underlying104 (And.intro @Tryd.underlying105 (And.intro @Tryd.results2 (And.intro @Tryd.results3 (And.intro @Tryd.results4 (And.intro @Tryd.results5 (And.intro @Tryd.results6 (And.intro @Tryd.results7 (And.intro @Tryd.results8 (And.intro @Tryd.results9 (And.intro @Tryd.results10 (And.intro @Tryd.results11 (And.intro @Tryd.results12 (And.intro @Tryd.results13 (And.intro @Tryd.results14 (And.intro @Tryd.results15 (And.intro @Tryd.results16 (And.intro @Tryd.results17 (And.intro @Tryd.results18 (And.intro @Tryd.results19 (And.intro @Tryd.results20 (And.intro @Tryd.results21 (And.intro @Tryd.results22 (And.intro @Tryd.results23 (And.intro @Tryd.results24 (And.intro @Tryd.results25 (And.intro @Tryd.results26 (And.intro @Tryd.results27 (And.intro @Tryd.results28 (And.intro @Tryd.results29 (And.intro @Tryd.results30 (And.intro @Tryd.results31 (And.intro @Tryd.results32 (And.intro @Tryd.results33 (And.intro @Tryd.results34 (And.intro @Tryd.results35 (And.intro @Tryd.results36 (And.intro @Tryd.results37 (And.intro @Tryd.results38 (And.intro @Tryd.results39 (And.intro @Tryd.results40 (And.intro @Tryd.results41 (And.intro @Tryd.results42 (And.intro @Tryd.results43 (And.intro @Tryd.results44 (And.intro @Tryd.results45 (And.intro @Tryd.results46 (And.intro @Tryd.results47 (And.intro @Tryd.results48 (And.intro @Tryd.results49 (And.intro @Tryd.results50 (And.intro @Tryd.results51 (And.intro @Tryd.results52 (And.intro @Tryd.results53 (And.intro @Tryd.results54 (And.intro @Tryd.results55 (And.intro @Tryd.results56 (And.intro @Tryd.results57 (And.intro @Tryd.results58 (And.intro @Tryd.results59 (And.intro @Tryd.results60 (And.intro @Tryd.results61 (And.intro @Tryd.results62 (And.intro @Tryd.results63 (And.intro @Tryd.results64 (And.intro @Tryd.results65 (And.intro @Tryd.results66 (And.intro @Tryd.results67 (And.intro @Tryd.results68 (And.intro @Tryd.results69 (And.intro @Tryd.results70 (And.intro @Tryd.results71 (And.intro @Tryd.results72 (And.intro @Tryd.results73 (And.intro @Tryd.results74 (And.intro @Tryd.results76 (And.intro @Tryd.results77 (@Tryd.results78)))))))))))))))))))))))))))))))))))))))))))))))))))))))))))))))))))))))))))))))))))))))))))))))))))
theorem tyS5 : type_of% (@Tryd.results101) := @Tryd.results101
theorem tyS : type_of% (And.intro @tyS0 (And.intro @tyS1 (And.intro @tyS2 (And.intro @tyS3 (And.intro @tyS4 (@tyS5)))))) := And.intro @tyS0 (And.intro @tyS1 (And.intro @tyS2 (And.intro @tyS3 (And.intro @tyS4 (@tyS5)))))
end Go.Proofs.YtejcnpllodgmlaaDoor
