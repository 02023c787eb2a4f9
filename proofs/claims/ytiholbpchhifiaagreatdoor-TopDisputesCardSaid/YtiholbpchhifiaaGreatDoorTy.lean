/-
Closed facts on the types and functions of this translation.
Conditions: none.
-/
import Derived.Test.YtiholbpchhifiaaGreatDoorProg
import Derived.Test.YtiholbpchhifiaaGreatDoorVmEq
import Derived.KernelRfl
namespace Go.Proofs.YtiholbpchhifiaaGreatDoor
open Go.Vm
set_option maxRecDepth 100000
theorem shp2 : shp Tryz.prog 2 = some (false, 1) := by kernel_rfl
theorem zro2 : zro Tryz.prog 2 = some (.int .i64 0) := by kernel_rfl
theorem shp3 : shp Tryz.prog 3 = some (false, 1) := by kernel_rfl
theorem zro3 : zro Tryz.prog 3 = some (.int .i64 0) := by kernel_rfl
theorem shp4 : shp Tryz.prog 4 = some (false, 1) := by kernel_rfl
theorem zro4 : zro Tryz.prog 4 = some (.bool false) := by kernel_rfl
theorem shp5 : shp Tryz.prog 5 = some (false, 1) := by kernel_rfl
theorem zro5 : zro Tryz.prog 5 = some (.int .u8 0) := by kernel_rfl
theorem shp6 : shp Tryz.prog 6 = some (false, 1) := by kernel_rfl
theorem zro6 : zro Tryz.prog 6 = some (.int .u8 0) := by kernel_rfl
theorem shp7 : shp Tryz.prog 7 = some (true, 4) := by kernel_rfl
theorem fld7n0 : fld Tryz.prog 7 0 = some (0, false, 1) := by kernel_rfl
theorem fld7n1 : fld Tryz.prog 7 1 = some (1, false, 1) := by kernel_rfl
theorem fld7n2 : fld Tryz.prog 7 2 = some (2, false, 1) := by kernel_rfl
theorem fld7n3 : fld Tryz.prog 7 3 = some (3, false, 1) := by kernel_rfl
theorem bok7 : bldOk Tryz.prog 7 = true := by kernel_rfl
theorem zro7 : zro Tryz.prog 7 = some (.agg #[.int .i64 0, .int .i64 0, .bool false, .int .u8 0]) := by kernel_rfl
theorem shp8 : shp Tryz.prog 8 = some (true, 4) := by kernel_rfl
theorem fld8n0 : fld Tryz.prog 8 0 = some (0, false, 1) := by kernel_rfl
theorem fld8n1 : fld Tryz.prog 8 1 = some (1, false, 1) := by kernel_rfl
theorem fld8n2 : fld Tryz.prog 8 2 = some (2, false, 1) := by kernel_rfl
theorem fld8n3 : fld Tryz.prog 8 3 = some (3, false, 1) := by kernel_rfl
theorem bok8 : bldOk Tryz.prog 8 = true := by kernel_rfl
theorem zro8 : zro Tryz.prog 8 = some (.agg #[.int .i64 0, .int .i64 0, .bool false, .int .u8 0]) := by kernel_rfl
theorem shp9 : shp Tryz.prog 9 = some (false, 1) := by kernel_rfl
theorem zro9 : zro Tryz.prog 9 = some (.string ⟨#[]⟩) := by kernel_rfl
theorem shp10 : shp Tryz.prog 10 = some (false, 1) := by kernel_rfl
theorem zro10 : zro Tryz.prog 10 = some (.string ⟨#[]⟩) := by kernel_rfl
theorem shp11 : shp Tryz.prog 11 = some (false, 1) := by kernel_rfl
theorem zro11 : zro Tryz.prog 11 = some (.string ⟨#[]⟩) := by kernel_rfl
theorem shp12 : shp Tryz.prog 12 = some (false, 1) := by kernel_rfl
theorem zro12 : zro Tryz.prog 12 = some (.int .u64 0) := by kernel_rfl
theorem shp13 : shp Tryz.prog 13 = some (true, 2) := by kernel_rfl
theorem fld13n0 : fld Tryz.prog 13 0 = some (0, false, 1) := by kernel_rfl
theorem fld13n1 : fld Tryz.prog 13 1 = some (1, false, 1) := by kernel_rfl
theorem bok13 : bldOk Tryz.prog 13 = true := by kernel_rfl
theorem zro13 : zro Tryz.prog 13 = some (.agg #[.string ⟨#[]⟩, .int .u64 0]) := by kernel_rfl
theorem shp14 : shp Tryz.prog 14 = some (true, 2) := by kernel_rfl
theorem fld14n0 : fld Tryz.prog 14 0 = some (0, false, 1) := by kernel_rfl
theorem fld14n1 : fld Tryz.prog 14 1 = some (1, false, 1) := by kernel_rfl
theorem bok14 : bldOk Tryz.prog 14 = true := by kernel_rfl
theorem zro14 : zro Tryz.prog 14 = some (.agg #[.string ⟨#[]⟩, .int .u64 0]) := by kernel_rfl
theorem shp15 : shp Tryz.prog 15 = some (false, 1) := by kernel_rfl
theorem zro15 : zro Tryz.prog 15 = some (.pointer none) := by kernel_rfl
theorem shp16 : shp Tryz.prog 16 = some (false, 1) := by kernel_rfl
theorem zro16 : zro Tryz.prog 16 = some (.pointer none) := by kernel_rfl
theorem shp17 : shp Tryz.prog 17 = some (false, 1) := by kernel_rfl
theorem zro17 : zro Tryz.prog 17 = some (.pointer none) := by kernel_rfl
theorem shp18 : shp Tryz.prog 18 = some (true, 1) := by kernel_rfl
theorem fld18n0 : fld Tryz.prog 18 0 = some (0, false, 1) := by kernel_rfl
theorem bok18 : bldOk Tryz.prog 18 = true := by kernel_rfl
theorem zro18 : zro Tryz.prog 18 = some (.agg #[.pointer none]) := by kernel_rfl
theorem shp19 : shp Tryz.prog 19 = some (true, 1) := by kernel_rfl
theorem fld19n0 : fld Tryz.prog 19 0 = some (0, false, 1) := by kernel_rfl
theorem bok19 : bldOk Tryz.prog 19 = true := by kernel_rfl
theorem zro19 : zro Tryz.prog 19 = some (.agg #[.pointer none]) := by kernel_rfl
theorem shp20 : shp Tryz.prog 20 = some (false, 1) := by kernel_rfl
theorem zro20 : zro Tryz.prog 20 = some (.nilIface) := by kernel_rfl
theorem shp21 : shp Tryz.prog 21 = some (false, 1) := by kernel_rfl
theorem zro21 : zro Tryz.prog 21 = some (.int .i32 0) := by kernel_rfl
theorem shp22 : shp Tryz.prog 22 = some (false, 1) := by kernel_rfl
theorem zro22 : zro Tryz.prog 22 = some (.slice none 0 0) := by kernel_rfl
theorem slc22 : slc Tryz.prog 22 = some (39, 3, 3) := by kernel_rfl
theorem shp23 : shp Tryz.prog 23 = some (false, 1) := by kernel_rfl
theorem zro23 : zro Tryz.prog 23 = some (.pointer none) := by kernel_rfl
theorem shp26 : shp Tryz.prog 26 = some (true, 2) := by kernel_rfl
theorem fld26n0 : fld Tryz.prog 26 0 = some (0, false, 1) := by kernel_rfl
theorem fld26n1 : fld Tryz.prog 26 1 = some (1, false, 1) := by kernel_rfl
theorem bok26 : bldOk Tryz.prog 26 = true := by kernel_rfl
theorem sih26 : Tryz.prog.stoodInHeld 26 = false := by kernel_rfl
theorem egt26 : Tryz.prog.eqGuardType Tryz.prog.depth 26 = false := by kernel_rfl
theorem zro26 : zro Tryz.prog 26 = some (.agg #[.int .i64 0, .string ⟨#[]⟩]) := by kernel_rfl
theorem shp27 : shp Tryz.prog 27 = some (true, 2) := by kernel_rfl
theorem fld27n0 : fld Tryz.prog 27 0 = some (0, false, 1) := by kernel_rfl
theorem fld27n1 : fld Tryz.prog 27 1 = some (1, false, 1) := by kernel_rfl
theorem bok27 : bldOk Tryz.prog 27 = true := by kernel_rfl
theorem sih27 : Tryz.prog.stoodInHeld 27 = false := by kernel_rfl
theorem egt27 : Tryz.prog.eqGuardType Tryz.prog.depth 27 = false := by kernel_rfl
theorem zro27 : zro Tryz.prog 27 = some (.agg #[.int .i64 0, .string ⟨#[]⟩]) := by kernel_rfl
theorem shp28 : shp Tryz.prog 28 = some (true, 12) := by kernel_rfl
theorem fld28n0 : fld Tryz.prog 28 0 = some (0, false, 1) := by kernel_rfl
theorem fld28n1 : fld Tryz.prog 28 1 = some (1, false, 1) := by kernel_rfl
theorem fld28n2 : fld Tryz.prog 28 2 = some (2, false, 1) := by kernel_rfl
theorem fld28n3 : fld Tryz.prog 28 3 = some (3, false, 1) := by kernel_rfl
theorem fld28n4 : fld Tryz.prog 28 4 = some (4, false, 1) := by kernel_rfl
theorem fld28n5 : fld Tryz.prog 28 5 = some (5, false, 1) := by kernel_rfl
theorem fld28n6 : fld Tryz.prog 28 6 = some (6, false, 1) := by kernel_rfl
theorem fld28n7 : fld Tryz.prog 28 7 = some (7, true, 2) := by kernel_rfl
theorem fld28n8 : fld Tryz.prog 28 8 = some (9, false, 1) := by kernel_rfl
theorem fld28n9 : fld Tryz.prog 28 9 = some (10, false, 1) := by kernel_rfl
theorem fld28n10 : fld Tryz.prog 28 10 = some (11, false, 1) := by kernel_rfl
theorem bok28 : bldOk Tryz.prog 28 = true := by kernel_rfl
theorem sih28 : Tryz.prog.stoodInHeld 28 = false := by kernel_rfl
theorem egt28 : Tryz.prog.eqGuardType Tryz.prog.depth 28 = false := by kernel_rfl
theorem zro28 : zro Tryz.prog 28 = some (.agg #[.int .i64 0, .string ⟨#[]⟩, .string ⟨#[]⟩, .string ⟨#[]⟩, .string ⟨#[]⟩, .string ⟨#[]⟩, .string ⟨#[]⟩, .int .i64 0, .string ⟨#[]⟩, .int .i64 0, .int .i64 0, .bool false]) := by kernel_rfl
theorem shp29 : shp Tryz.prog 29 = some (true, 12) := by kernel_rfl
theorem fld29n0 : fld Tryz.prog 29 0 = some (0, false, 1) := by kernel_rfl
theorem fld29n1 : fld Tryz.prog 29 1 = some (1, false, 1) := by kernel_rfl
theorem fld29n2 : fld Tryz.prog 29 2 = some (2, false, 1) := by kernel_rfl
theorem fld29n3 : fld Tryz.prog 29 3 = some (3, false, 1) := by kernel_rfl
theorem fld29n4 : fld Tryz.prog 29 4 = some (4, false, 1) := by kernel_rfl
theorem fld29n5 : fld Tryz.prog 29 5 = some (5, false, 1) := by kernel_rfl
theorem fld29n6 : fld Tryz.prog 29 6 = some (6, false, 1) := by kernel_rfl
theorem fld29n7 : fld Tryz.prog 29 7 = some (7, true, 2) := by kernel_rfl
theorem fld29n8 : fld Tryz.prog 29 8 = some (9, false, 1) := by kernel_rfl
theorem fld29n9 : fld Tryz.prog 29 9 = some (10, false, 1) := by kernel_rfl
theorem fld29n10 : fld Tryz.prog 29 10 = some (11, false, 1) := by kernel_rfl
theorem bok29 : bldOk Tryz.prog 29 = true := by kernel_rfl
theorem sih29 : Tryz.prog.stoodInHeld 29 = false := by kernel_rfl
theorem egt29 : Tryz.prog.eqGuardType Tryz.prog.depth 29 = false := by kernel_rfl
theorem zro29 : zro Tryz.prog 29 = some (.agg #[.int .i64 0, .string ⟨#[]⟩, .string ⟨#[]⟩, .string ⟨#[]⟩, .string ⟨#[]⟩, .string ⟨#[]⟩, .string ⟨#[]⟩, .int .i64 0, .string ⟨#[]⟩, .int .i64 0, .int .i64 0, .bool false]) := by kernel_rfl
theorem shp31 : shp Tryz.prog 31 = some (false, 1) := by kernel_rfl
theorem zro31 : zro Tryz.prog 31 = some (.int .i64 0) := by kernel_rfl
theorem shp34 : shp Tryz.prog 34 = some (false, 1) := by kernel_rfl
theorem zro34 : zro Tryz.prog 34 = some (.pointer none) := by kernel_rfl
theorem shp37 : shp Tryz.prog 37 = some (false, 1) := by kernel_rfl
theorem zro37 : zro Tryz.prog 37 = some (.slice none 0 0) := by kernel_rfl
theorem slc37 : slc Tryz.prog 37 = some (9, 1, 16) := by kernel_rfl
theorem shp38 : shp Tryz.prog 38 = some (true, 3) := by kernel_rfl
theorem fld38n0 : fld Tryz.prog 38 0 = some (0, false, 1) := by kernel_rfl
theorem fld38n1 : fld Tryz.prog 38 1 = some (1, false, 1) := by kernel_rfl
theorem fld38n2 : fld Tryz.prog 38 2 = some (2, false, 1) := by kernel_rfl
theorem bok38 : bldOk Tryz.prog 38 = true := by kernel_rfl
theorem sih38 : Tryz.prog.stoodInHeld 38 = false := by kernel_rfl
theorem egt38 : Tryz.prog.eqGuardType Tryz.prog.depth 38 = false := by kernel_rfl
theorem zro38 : zro Tryz.prog 38 = some (.agg #[.int .u8 0, .int .u8 0, .bool false]) := by kernel_rfl
theorem shp39 : shp Tryz.prog 39 = some (true, 3) := by kernel_rfl
theorem fld39n0 : fld Tryz.prog 39 0 = some (0, false, 1) := by kernel_rfl
theorem fld39n1 : fld Tryz.prog 39 1 = some (1, false, 1) := by kernel_rfl
theorem fld39n2 : fld Tryz.prog 39 2 = some (2, false, 1) := by kernel_rfl
theorem bok39 : bldOk Tryz.prog 39 = true := by kernel_rfl
theorem sih39 : Tryz.prog.stoodInHeld 39 = false := by kernel_rfl
theorem egt39 : Tryz.prog.eqGuardType Tryz.prog.depth 39 = false := by kernel_rfl
theorem zro39 : zro Tryz.prog 39 = some (.agg #[.int .u8 0, .int .u8 0, .bool false]) := by kernel_rfl
theorem shp42 : shp Tryz.prog 42 = some (true, 10) := by kernel_rfl
theorem fld42n0 : fld Tryz.prog 42 0 = some (0, false, 1) := by kernel_rfl
theorem fld42n1 : fld Tryz.prog 42 1 = some (1, false, 1) := by kernel_rfl
theorem fld42n2 : fld Tryz.prog 42 2 = some (2, false, 1) := by kernel_rfl
theorem fld42n3 : fld Tryz.prog 42 3 = some (3, false, 1) := by kernel_rfl
theorem fld42n4 : fld Tryz.prog 42 4 = some (4, false, 1) := by kernel_rfl
theorem fld42n5 : fld Tryz.prog 42 5 = some (5, true, 2) := by kernel_rfl
theorem fld42n6 : fld Tryz.prog 42 6 = some (7, false, 1) := by kernel_rfl
theorem fld42n7 : fld Tryz.prog 42 7 = some (8, false, 1) := by kernel_rfl
theorem fld42n8 : fld Tryz.prog 42 8 = some (9, false, 1) := by kernel_rfl
theorem bok42 : bldOk Tryz.prog 42 = true := by kernel_rfl
theorem sih42 : Tryz.prog.stoodInHeld 42 = false := by kernel_rfl
theorem egt42 : Tryz.prog.eqGuardType Tryz.prog.depth 42 = false := by kernel_rfl
theorem zro42 : zro Tryz.prog 42 = some (.agg #[.string ⟨#[]⟩, .string ⟨#[]⟩, .string ⟨#[]⟩, .string ⟨#[]⟩, .string ⟨#[]⟩, .int .i64 0, .string ⟨#[]⟩, .int .i64 0, .int .i64 0, .int .i64 0]) := by kernel_rfl
theorem shp43 : shp Tryz.prog 43 = some (true, 10) := by kernel_rfl
theorem fld43n0 : fld Tryz.prog 43 0 = some (0, false, 1) := by kernel_rfl
theorem fld43n1 : fld Tryz.prog 43 1 = some (1, false, 1) := by kernel_rfl
theorem fld43n2 : fld Tryz.prog 43 2 = some (2, false, 1) := by kernel_rfl
theorem fld43n3 : fld Tryz.prog 43 3 = some (3, false, 1) := by kernel_rfl
theorem fld43n4 : fld Tryz.prog 43 4 = some (4, false, 1) := by kernel_rfl
theorem fld43n5 : fld Tryz.prog 43 5 = some (5, true, 2) := by kernel_rfl
theorem fld43n6 : fld Tryz.prog 43 6 = some (7, false, 1) := by kernel_rfl
theorem fld43n7 : fld Tryz.prog 43 7 = some (8, false, 1) := by kernel_rfl
theorem fld43n8 : fld Tryz.prog 43 8 = some (9, false, 1) := by kernel_rfl
theorem bok43 : bldOk Tryz.prog 43 = true := by kernel_rfl
theorem sih43 : Tryz.prog.stoodInHeld 43 = false := by kernel_rfl
theorem egt43 : Tryz.prog.eqGuardType Tryz.prog.depth 43 = false := by kernel_rfl
theorem zro43 : zro Tryz.prog 43 = some (.agg #[.string ⟨#[]⟩, .string ⟨#[]⟩, .string ⟨#[]⟩, .string ⟨#[]⟩, .string ⟨#[]⟩, .int .i64 0, .string ⟨#[]⟩, .int .i64 0, .int .i64 0, .int .i64 0]) := by kernel_rfl
theorem shp46 : shp Tryz.prog 46 = some (false, 1) := by kernel_rfl
theorem zro46 : zro Tryz.prog 46 = some (.slice none 0 0) := by kernel_rfl
theorem slc46 : slc Tryz.prog 46 = some (3, 1, 8) := by kernel_rfl
theorem shp56 : shp Tryz.prog 56 = some (true, 7) := by kernel_rfl
theorem fld56n0 : fld Tryz.prog 56 0 = some (0, false, 1) := by kernel_rfl
theorem fld56n1 : fld Tryz.prog 56 1 = some (1, false, 1) := by kernel_rfl
theorem fld56n2 : fld Tryz.prog 56 2 = some (2, false, 1) := by kernel_rfl
theorem fld56n3 : fld Tryz.prog 56 3 = some (3, false, 1) := by kernel_rfl
theorem fld56n4 : fld Tryz.prog 56 4 = some (4, false, 1) := by kernel_rfl
theorem fld56n5 : fld Tryz.prog 56 5 = some (5, false, 1) := by kernel_rfl
theorem fld56n6 : fld Tryz.prog 56 6 = some (6, false, 1) := by kernel_rfl
theorem bok56 : bldOk Tryz.prog 56 = true := by kernel_rfl
theorem sih56 : Tryz.prog.stoodInHeld 56 = false := by kernel_rfl
theorem egt56 : Tryz.prog.eqGuardType Tryz.prog.depth 56 = false := by kernel_rfl
theorem zro56 : zro Tryz.prog 56 = some (.agg #[.string ⟨#[]⟩, .int .i64 0, .int .i64 0, .int .i64 0, .int .i64 0, .slice none 0 0, .slice none 0 0]) := by kernel_rfl
theorem shp57 : shp Tryz.prog 57 = some (true, 7) := by kernel_rfl
theorem fld57n0 : fld Tryz.prog 57 0 = some (0, false, 1) := by kernel_rfl
theorem fld57n1 : fld Tryz.prog 57 1 = some (1, false, 1) := by kernel_rfl
theorem fld57n2 : fld Tryz.prog 57 2 = some (2, false, 1) := by kernel_rfl
theorem fld57n3 : fld Tryz.prog 57 3 = some (3, false, 1) := by kernel_rfl
theorem fld57n4 : fld Tryz.prog 57 4 = some (4, false, 1) := by kernel_rfl
theorem fld57n5 : fld Tryz.prog 57 5 = some (5, false, 1) := by kernel_rfl
theorem fld57n6 : fld Tryz.prog 57 6 = some (6, false, 1) := by kernel_rfl
theorem bok57 : bldOk Tryz.prog 57 = true := by kernel_rfl
theorem sih57 : Tryz.prog.stoodInHeld 57 = false := by kernel_rfl
theorem egt57 : Tryz.prog.eqGuardType Tryz.prog.depth 57 = false := by kernel_rfl
theorem zro57 : zro Tryz.prog 57 = some (.agg #[.string ⟨#[]⟩, .int .i64 0, .int .i64 0, .int .i64 0, .int .i64 0, .slice none 0 0, .slice none 0 0]) := by kernel_rfl
theorem shp58 : shp Tryz.prog 58 = some (false, 1) := by kernel_rfl
theorem zro58 : zro Tryz.prog 58 = some (.slice none 0 0) := by kernel_rfl
theorem slc58 : slc Tryz.prog 58 = some (57, 7, 96) := by kernel_rfl
theorem shp59 : shp Tryz.prog 59 = some (false, 1) := by kernel_rfl
theorem zro59 : zro Tryz.prog 59 = some (.slice none 0 0) := by kernel_rfl
theorem slc59 : slc Tryz.prog 59 = some (108, 3, 32) := by kernel_rfl
theorem shp62 : shp Tryz.prog 62 = some (false, 1) := by kernel_rfl
theorem zro62 : zro Tryz.prog 62 = some (.slice none 0 0) := by kernel_rfl
theorem slc62 : slc Tryz.prog 62 = some (68, 12, 160) := by kernel_rfl
theorem shp63 : shp Tryz.prog 63 = some (false, 1) := by kernel_rfl
theorem zro63 : zro Tryz.prog 63 = some (.map none) := by kernel_rfl
theorem shp64 : shp Tryz.prog 64 = some (true, 3) := by kernel_rfl
theorem fld64n0 : fld Tryz.prog 64 0 = some (0, false, 1) := by kernel_rfl
theorem fld64n1 : fld Tryz.prog 64 1 = some (1, false, 1) := by kernel_rfl
theorem fld64n2 : fld Tryz.prog 64 2 = some (2, false, 1) := by kernel_rfl
theorem bok64 : bldOk Tryz.prog 64 = true := by kernel_rfl
theorem sih64 : Tryz.prog.stoodInHeld 64 = false := by kernel_rfl
theorem egt64 : Tryz.prog.eqGuardType Tryz.prog.depth 64 = false := by kernel_rfl
theorem zro64 : zro Tryz.prog 64 = some (.agg #[.slice none 0 0, .slice none 0 0, .map none]) := by kernel_rfl
theorem shp65 : shp Tryz.prog 65 = some (true, 3) := by kernel_rfl
theorem fld65n0 : fld Tryz.prog 65 0 = some (0, false, 1) := by kernel_rfl
theorem fld65n1 : fld Tryz.prog 65 1 = some (1, false, 1) := by kernel_rfl
theorem fld65n2 : fld Tryz.prog 65 2 = some (2, false, 1) := by kernel_rfl
theorem bok65 : bldOk Tryz.prog 65 = true := by kernel_rfl
theorem sih65 : Tryz.prog.stoodInHeld 65 = false := by kernel_rfl
theorem egt65 : Tryz.prog.eqGuardType Tryz.prog.depth 65 = false := by kernel_rfl
theorem zro65 : zro Tryz.prog 65 = some (.agg #[.slice none 0 0, .slice none 0 0, .map none]) := by kernel_rfl
theorem shp67 : shp Tryz.prog 67 = some (true, 12) := by kernel_rfl
theorem fld67n0 : fld Tryz.prog 67 0 = some (0, true, 10) := by kernel_rfl
theorem fld67n1 : fld Tryz.prog 67 1 = some (10, false, 1) := by kernel_rfl
theorem fld67n2 : fld Tryz.prog 67 2 = some (11, false, 1) := by kernel_rfl
theorem bok67 : bldOk Tryz.prog 67 = true := by kernel_rfl
theorem sih67 : Tryz.prog.stoodInHeld 67 = false := by kernel_rfl
theorem egt67 : Tryz.prog.eqGuardType Tryz.prog.depth 67 = false := by kernel_rfl
theorem zro67 : zro Tryz.prog 67 = some (.agg #[.string ⟨#[]⟩, .string ⟨#[]⟩, .string ⟨#[]⟩, .string ⟨#[]⟩, .string ⟨#[]⟩, .int .i64 0, .string ⟨#[]⟩, .int .i64 0, .int .i64 0, .int .i64 0, .slice none 0 0, .int .i64 0]) := by kernel_rfl
theorem shp68 : shp Tryz.prog 68 = some (true, 12) := by kernel_rfl
theorem fld68n0 : fld Tryz.prog 68 0 = some (0, true, 10) := by kernel_rfl
theorem fld68n1 : fld Tryz.prog 68 1 = some (10, false, 1) := by kernel_rfl
theorem fld68n2 : fld Tryz.prog 68 2 = some (11, false, 1) := by kernel_rfl
theorem bok68 : bldOk Tryz.prog 68 = true := by kernel_rfl
theorem sih68 : Tryz.prog.stoodInHeld 68 = false := by kernel_rfl
theorem egt68 : Tryz.prog.eqGuardType Tryz.prog.depth 68 = false := by kernel_rfl
theorem zro68 : zro Tryz.prog 68 = some (.agg #[.string ⟨#[]⟩, .string ⟨#[]⟩, .string ⟨#[]⟩, .string ⟨#[]⟩, .string ⟨#[]⟩, .int .i64 0, .string ⟨#[]⟩, .int .i64 0, .int .i64 0, .int .i64 0, .slice none 0 0, .int .i64 0]) := by kernel_rfl
theorem shp70 : shp Tryz.prog 70 = some (false, 1) := by kernel_rfl
theorem zro70 : zro Tryz.prog 70 = some (.pointer none) := by kernel_rfl
theorem shp71 : shp Tryz.prog 71 = some (false, 1) := by kernel_rfl
theorem zro71 : zro Tryz.prog 71 = some (.slice none 0 0) := by kernel_rfl
theorem slc71 : slc Tryz.prog 71 = some (29, 12, 152) := by kernel_rfl
theorem shp75 : shp Tryz.prog 75 = some (false, 1) := by kernel_rfl
theorem zro75 : zro Tryz.prog 75 = some (.map none) := by kernel_rfl
theorem shp76 : shp Tryz.prog 76 = some (true, 2) := by kernel_rfl
theorem fld76n0 : fld Tryz.prog 76 0 = some (0, false, 1) := by kernel_rfl
theorem fld76n1 : fld Tryz.prog 76 1 = some (1, false, 1) := by kernel_rfl
theorem bok76 : bldOk Tryz.prog 76 = true := by kernel_rfl
theorem sih76 : Tryz.prog.stoodInHeld 76 = false := by kernel_rfl
theorem egt76 : Tryz.prog.eqGuardType Tryz.prog.depth 76 = false := by kernel_rfl
theorem zro76 : zro Tryz.prog 76 = some (.agg #[.slice none 0 0, .map none]) := by kernel_rfl
theorem shp77 : shp Tryz.prog 77 = some (true, 2) := by kernel_rfl
theorem fld77n0 : fld Tryz.prog 77 0 = some (0, false, 1) := by kernel_rfl
theorem fld77n1 : fld Tryz.prog 77 1 = some (1, false, 1) := by kernel_rfl
theorem bok77 : bldOk Tryz.prog 77 = true := by kernel_rfl
theorem sih77 : Tryz.prog.stoodInHeld 77 = false := by kernel_rfl
theorem egt77 : Tryz.prog.eqGuardType Tryz.prog.depth 77 = false := by kernel_rfl
theorem zro77 : zro Tryz.prog 77 = some (.agg #[.slice none 0 0, .map none]) := by kernel_rfl
theorem shp92 : shp Tryz.prog 92 = some (true, 16) := by kernel_rfl
theorem bok92 : bldOk Tryz.prog 92 = false := by kernel_rfl
theorem zro92 : zro Tryz.prog 92 = some (.agg #[.int .i64 0, .int .i64 0, .int .i64 0, .int .i64 0, .int .i64 0, .int .i64 0, .int .i64 0, .int .i64 0, .int .i64 0, .int .i64 0, .int .i64 0, .int .i64 0, .int .i64 0, .int .i64 0, .int .i64 0, .int .i64 0]) := by kernel_rfl
theorem shp93 : shp Tryz.prog 93 = some (true, 16) := by kernel_rfl
theorem bok93 : bldOk Tryz.prog 93 = false := by kernel_rfl
theorem zro93 : zro Tryz.prog 93 = some (.agg #[.int .i64 0, .int .i64 0, .int .i64 0, .int .i64 0, .int .i64 0, .int .i64 0, .int .i64 0, .int .i64 0, .int .i64 0, .int .i64 0, .int .i64 0, .int .i64 0, .int .i64 0, .int .i64 0, .int .i64 0, .int .i64 0]) := by kernel_rfl
theorem shp104 : shp Tryz.prog 104 = some (false, 1) := by kernel_rfl
theorem zro104 : zro Tryz.prog 104 = some (.int .u64 0) := by kernel_rfl
theorem shp105 : shp Tryz.prog 105 = some (false, 1) := by kernel_rfl
theorem zro105 : zro Tryz.prog 105 = some (.map none) := by kernel_rfl
theorem shp106 : shp Tryz.prog 106 = some (false, 1) := by kernel_rfl
theorem zro106 : zro Tryz.prog 106 = some (.int .u64 0) := by kernel_rfl
theorem shp107 : shp Tryz.prog 107 = some (true, 3) := by kernel_rfl
theorem fld107n0 : fld Tryz.prog 107 0 = some (0, false, 1) := by kernel_rfl
theorem fld107n1 : fld Tryz.prog 107 1 = some (1, false, 1) := by kernel_rfl
theorem fld107n2 : fld Tryz.prog 107 2 = some (2, false, 1) := by kernel_rfl
theorem bok107 : bldOk Tryz.prog 107 = true := by kernel_rfl
theorem sih107 : Tryz.prog.stoodInHeld 107 = false := by kernel_rfl
theorem egt107 : Tryz.prog.eqGuardType Tryz.prog.depth 107 = false := by kernel_rfl
theorem zro107 : zro Tryz.prog 107 = some (.agg #[.string ⟨#[]⟩, .int .i64 0, .int .u64 0]) := by kernel_rfl
theorem shp108 : shp Tryz.prog 108 = some (true, 3) := by kernel_rfl
theorem fld108n0 : fld Tryz.prog 108 0 = some (0, false, 1) := by kernel_rfl
theorem fld108n1 : fld Tryz.prog 108 1 = some (1, false, 1) := by kernel_rfl
theorem fld108n2 : fld Tryz.prog 108 2 = some (2, false, 1) := by kernel_rfl
theorem bok108 : bldOk Tryz.prog 108 = true := by kernel_rfl
theorem sih108 : Tryz.prog.stoodInHeld 108 = false := by kernel_rfl
theorem egt108 : Tryz.prog.eqGuardType Tryz.prog.depth 108 = false := by kernel_rfl
theorem zro108 : zro Tryz.prog 108 = some (.agg #[.string ⟨#[]⟩, .int .i64 0, .int .u64 0]) := by kernel_rfl
theorem shp112 : shp Tryz.prog 112 = some (true, 12) := by kernel_rfl
theorem fld112n0 : fld Tryz.prog 112 0 = some (0, false, 1) := by kernel_rfl
theorem fld112n1 : fld Tryz.prog 112 1 = some (1, false, 1) := by kernel_rfl
theorem fld112n2 : fld Tryz.prog 112 2 = some (2, false, 1) := by kernel_rfl
theorem fld112n3 : fld Tryz.prog 112 3 = some (3, false, 1) := by kernel_rfl
theorem fld112n4 : fld Tryz.prog 112 4 = some (4, false, 1) := by kernel_rfl
theorem fld112n5 : fld Tryz.prog 112 5 = some (5, false, 1) := by kernel_rfl
theorem fld112n6 : fld Tryz.prog 112 6 = some (6, false, 1) := by kernel_rfl
theorem fld112n7 : fld Tryz.prog 112 7 = some (7, true, 2) := by kernel_rfl
theorem fld112n8 : fld Tryz.prog 112 8 = some (9, false, 1) := by kernel_rfl
theorem fld112n9 : fld Tryz.prog 112 9 = some (10, false, 1) := by kernel_rfl
theorem fld112n10 : fld Tryz.prog 112 10 = some (11, false, 1) := by kernel_rfl
theorem bok112 : bldOk Tryz.prog 112 = true := by kernel_rfl
theorem sih112 : Tryz.prog.stoodInHeld 112 = false := by kernel_rfl
theorem egt112 : Tryz.prog.eqGuardType Tryz.prog.depth 112 = false := by kernel_rfl
theorem zro112 : zro Tryz.prog 112 = some (.agg #[.int .i64 0, .string ⟨#[]⟩, .string ⟨#[]⟩, .string ⟨#[]⟩, .string ⟨#[]⟩, .string ⟨#[]⟩, .string ⟨#[]⟩, .int .i64 0, .string ⟨#[]⟩, .int .i64 0, .int .i64 0, .bool false]) := by kernel_rfl
theorem shp113 : shp Tryz.prog 113 = some (false, 1) := by kernel_rfl
theorem zro113 : zro Tryz.prog 113 = some (.slice none 0 0) := by kernel_rfl
theorem slc113 : slc Tryz.prog 113 = some (110, 1, 8) := by kernel_rfl
theorem shp121 : shp Tryz.prog 121 = some (false, 1) := by kernel_rfl
theorem zro121 : zro Tryz.prog 121 = some (.int .i64 0) := by kernel_rfl
theorem shp129 : shp Tryz.prog 129 = some (false, 1) := by kernel_rfl
theorem zro129 : zro Tryz.prog 129 = some (.int .u32 0) := by kernel_rfl
theorem shp134 : shp Tryz.prog 134 = some (false, 1) := by kernel_rfl
theorem zro134 : zro Tryz.prog 134 = some (.int .u64 0) := by kernel_rfl
theorem shp138 : shp Tryz.prog 138 = some (false, 1) := by kernel_rfl
theorem zro138 : zro Tryz.prog 138 = some (.pointer none) := by kernel_rfl
theorem shp144 : shp Tryz.prog 144 = some (false, 1) := by kernel_rfl
theorem zro144 : zro Tryz.prog 144 = some (.pointer none) := by kernel_rfl
theorem shp148 : shp Tryz.prog 148 = some (true, 24) := by kernel_rfl
theorem bok148 : bldOk Tryz.prog 148 = false := by kernel_rfl
theorem zro148 : zro Tryz.prog 148 = some (.agg #[.int .u8 0, .int .u8 0, .int .u8 0, .int .u8 0, .int .u8 0, .int .u8 0, .int .u8 0, .int .u8 0, .int .u8 0, .int .u8 0, .int .u8 0, .int .u8 0, .int .u8 0, .int .u8 0, .int .u8 0, .int .u8 0, .int .u8 0, .int .u8 0, .int .u8 0, .int .u8 0, .int .u8 0, .int .u8 0, .int .u8 0, .int .u8 0]) := by kernel_rfl
theorem shp150 : shp Tryz.prog 150 = some (false, 1) := by kernel_rfl
theorem zro150 : zro Tryz.prog 150 = some (.slice none 0 0) := by kernel_rfl
theorem slc150 : slc Tryz.prog 150 = some (5, 1, 1) := by kernel_rfl
theorem shp154 : shp Tryz.prog 154 = some (true, 20) := by kernel_rfl
theorem bok154 : bldOk Tryz.prog 154 = false := by kernel_rfl
theorem zro154 : zro Tryz.prog 154 = some (.agg #[.int .u64 0, .int .u64 0, .int .u64 0, .int .u64 0, .int .u64 0, .int .u64 0, .int .u64 0, .int .u64 0, .int .u64 0, .int .u64 0, .int .u64 0, .int .u64 0, .int .u64 0, .int .u64 0, .int .u64 0, .int .u64 0, .int .u64 0, .int .u64 0, .int .u64 0, .int .u64 0]) := by kernel_rfl
theorem shp155 : shp Tryz.prog 155 = some (true, 65) := by kernel_rfl
theorem bok155 : bldOk Tryz.prog 155 = false := by kernel_rfl
theorem zro155 : zro Tryz.prog 155 = some (.agg #[.int .u8 0, .int .u8 0, .int .u8 0, .int .u8 0, .int .u8 0, .int .u8 0, .int .u8 0, .int .u8 0, .int .u8 0, .int .u8 0, .int .u8 0, .int .u8 0, .int .u8 0, .int .u8 0, .int .u8 0, .int .u8 0, .int .u8 0, .int .u8 0, .int .u8 0, .int .u8 0, .int .u8 0, .int .u8 0, .int .u8 0, .int .u8 0, .int .u8 0, .int .u8 0, .int .u8 0, .int .u8 0, .int .u8 0, .int .u8 0, .int .u8 0, .int .u8 0, .int .u8 0, .int .u8 0, .int .u8 0, .int .u8 0, .int .u8 0, .int .u8 0, .int .u8 0, .int .u8 0, .int .u8 0, .int .u8 0, .int .u8 0, .int .u8 0, .int .u8 0, .int .u8 0, .int .u8 0, .int .u8 0, .int .u8 0, .int .u8 0, .int .u8 0, .int .u8 0, .int .u8 0, .int .u8 0, .int .u8 0, .int .u8 0, .int .u8 0, .int .u8 0, .int .u8 0, .int .u8 0, .int .u8 0, .int .u8 0, .int .u8 0, .int .u8 0, .int .u8 0]) := by kernel_rfl
theorem shp156 : shp Tryz.prog 156 = some (true, 32) := by kernel_rfl
theorem bok156 : bldOk Tryz.prog 156 = false := by kernel_rfl
theorem zro156 : zro Tryz.prog 156 = some (.agg #[.int .u8 0, .int .u8 0, .int .u8 0, .int .u8 0, .int .u8 0, .int .u8 0, .int .u8 0, .int .u8 0, .int .u8 0, .int .u8 0, .int .u8 0, .int .u8 0, .int .u8 0, .int .u8 0, .int .u8 0, .int .u8 0, .int .u8 0, .int .u8 0, .int .u8 0, .int .u8 0, .int .u8 0, .int .u8 0, .int .u8 0, .int .u8 0, .int .u8 0, .int .u8 0, .int .u8 0, .int .u8 0, .int .u8 0, .int .u8 0, .int .u8 0, .int .u8 0]) := by kernel_rfl
theorem shp157 : shp Tryz.prog 157 = some (true, 64) := by kernel_rfl
theorem bok157 : bldOk Tryz.prog 157 = false := by kernel_rfl
theorem zro157 : zro Tryz.prog 157 = some (.agg #[.int .u8 0, .int .u8 0, .int .u8 0, .int .u8 0, .int .u8 0, .int .u8 0, .int .u8 0, .int .u8 0, .int .u8 0, .int .u8 0, .int .u8 0, .int .u8 0, .int .u8 0, .int .u8 0, .int .u8 0, .int .u8 0, .int .u8 0, .int .u8 0, .int .u8 0, .int .u8 0, .int .u8 0, .int .u8 0, .int .u8 0, .int .u8 0, .int .u8 0, .int .u8 0, .int .u8 0, .int .u8 0, .int .u8 0, .int .u8 0, .int .u8 0, .int .u8 0, .int .u8 0, .int .u8 0, .int .u8 0, .int .u8 0, .int .u8 0, .int .u8 0, .int .u8 0, .int .u8 0, .int .u8 0, .int .u8 0, .int .u8 0, .int .u8 0, .int .u8 0, .int .u8 0, .int .u8 0, .int .u8 0, .int .u8 0, .int .u8 0, .int .u8 0, .int .u8 0, .int .u8 0, .int .u8 0, .int .u8 0, .int .u8 0, .int .u8 0, .int .u8 0, .int .u8 0, .int .u8 0, .int .u8 0, .int .u8 0, .int .u8 0, .int .u8 0]) := by kernel_rfl
theorem shp159 : shp Tryz.prog 159 = some (true, 4) := by kernel_rfl
theorem fld159n0 : fld Tryz.prog 159 0 = some (0, false, 1) := by kernel_rfl
theorem fld159n1 : fld Tryz.prog 159 1 = some (1, false, 1) := by kernel_rfl
theorem fld159n2 : fld Tryz.prog 159 2 = some (2, false, 1) := by kernel_rfl
theorem fld159n3 : fld Tryz.prog 159 3 = some (3, false, 1) := by kernel_rfl
theorem bok159 : bldOk Tryz.prog 159 = true := by kernel_rfl
theorem zro159 : zro Tryz.prog 159 = some (.agg #[.pointer none, .pointer none, .pointer none, .string ⟨#[]⟩]) := by kernel_rfl
theorem shp160 : shp Tryz.prog 160 = some (true, 4) := by kernel_rfl
theorem fld160n0 : fld Tryz.prog 160 0 = some (0, false, 1) := by kernel_rfl
theorem fld160n1 : fld Tryz.prog 160 1 = some (1, false, 1) := by kernel_rfl
theorem fld160n2 : fld Tryz.prog 160 2 = some (2, false, 1) := by kernel_rfl
theorem fld160n3 : fld Tryz.prog 160 3 = some (3, false, 1) := by kernel_rfl
theorem bok160 : bldOk Tryz.prog 160 = true := by kernel_rfl
theorem zro160 : zro Tryz.prog 160 = some (.agg #[.pointer none, .pointer none, .pointer none, .string ⟨#[]⟩]) := by kernel_rfl
theorem shp161 : shp Tryz.prog 161 = some (true, 0) := by kernel_rfl
theorem bok161 : bldOk Tryz.prog 161 = false := by kernel_rfl
theorem zro161 : zro Tryz.prog 161 = some (.agg #[]) := by kernel_rfl
theorem shp162 : shp Tryz.prog 162 = some (true, 0) := by kernel_rfl
theorem fld162n0 : fld Tryz.prog 162 0 = some (0, true, 0) := by kernel_rfl
theorem bok162 : bldOk Tryz.prog 162 = true := by kernel_rfl
theorem zro162 : zro Tryz.prog 162 = some (.agg #[]) := by kernel_rfl
theorem shp163 : shp Tryz.prog 163 = some (true, 0) := by kernel_rfl
theorem fld163n0 : fld Tryz.prog 163 0 = some (0, true, 0) := by kernel_rfl
theorem bok163 : bldOk Tryz.prog 163 = true := by kernel_rfl
theorem zro163 : zro Tryz.prog 163 = some (.agg #[]) := by kernel_rfl
theorem shp165 : shp Tryz.prog 165 = some (false, 1) := by kernel_rfl
theorem zro165 : zro Tryz.prog 165 = some (.int .u8 0) := by kernel_rfl
theorem shp166 : shp Tryz.prog 166 = some (false, 1) := by kernel_rfl
theorem zro166 : zro Tryz.prog 166 = some (.int .u8 0) := by kernel_rfl
theorem shp168 : shp Tryz.prog 168 = some (false, 1) := by kernel_rfl
theorem zro168 : zro Tryz.prog 168 = some (.pointer none) := by kernel_rfl
theorem shp169 : shp Tryz.prog 169 = some (false, 1) := by kernel_rfl
theorem zro169 : zro Tryz.prog 169 = some (.int .i32 0) := by kernel_rfl
theorem shp170 : shp Tryz.prog 170 = some (false, 1) := by kernel_rfl
theorem zro170 : zro Tryz.prog 170 = some (.int .i32 0) := by kernel_rfl
theorem shp171 : shp Tryz.prog 171 = some (true, 11) := by kernel_rfl
theorem fld171n0 : fld Tryz.prog 171 0 = some (0, false, 1) := by kernel_rfl
theorem fld171n1 : fld Tryz.prog 171 1 = some (1, false, 1) := by kernel_rfl
theorem fld171n2 : fld Tryz.prog 171 2 = some (2, false, 1) := by kernel_rfl
theorem fld171n3 : fld Tryz.prog 171 3 = some (3, false, 1) := by kernel_rfl
theorem fld171n4 : fld Tryz.prog 171 4 = some (4, false, 1) := by kernel_rfl
theorem fld171n5 : fld Tryz.prog 171 5 = some (5, false, 1) := by kernel_rfl
theorem fld171n6 : fld Tryz.prog 171 6 = some (6, false, 1) := by kernel_rfl
theorem fld171n7 : fld Tryz.prog 171 7 = some (7, false, 1) := by kernel_rfl
theorem fld171n8 : fld Tryz.prog 171 8 = some (8, false, 1) := by kernel_rfl
theorem fld171n9 : fld Tryz.prog 171 9 = some (9, false, 1) := by kernel_rfl
theorem fld171n10 : fld Tryz.prog 171 10 = some (10, false, 1) := by kernel_rfl
theorem bok171 : bldOk Tryz.prog 171 = true := by kernel_rfl
theorem zro171 : zro Tryz.prog 171 = some (.agg #[.int .u64 0, .int .u64 0, .int .u32 0, .int .u8 0, .int .u8 0, .int .u8 0, .int .u8 0, .nilFunc, .pointer none, .int .i32 0, .int .i32 0]) := by kernel_rfl
theorem shp172 : shp Tryz.prog 172 = some (true, 11) := by kernel_rfl
theorem fld172n0 : fld Tryz.prog 172 0 = some (0, false, 1) := by kernel_rfl
theorem fld172n1 : fld Tryz.prog 172 1 = some (1, false, 1) := by kernel_rfl
theorem fld172n2 : fld Tryz.prog 172 2 = some (2, false, 1) := by kernel_rfl
theorem fld172n3 : fld Tryz.prog 172 3 = some (3, false, 1) := by kernel_rfl
theorem fld172n4 : fld Tryz.prog 172 4 = some (4, false, 1) := by kernel_rfl
theorem fld172n5 : fld Tryz.prog 172 5 = some (5, false, 1) := by kernel_rfl
theorem fld172n6 : fld Tryz.prog 172 6 = some (6, false, 1) := by kernel_rfl
theorem fld172n7 : fld Tryz.prog 172 7 = some (7, false, 1) := by kernel_rfl
theorem fld172n8 : fld Tryz.prog 172 8 = some (8, false, 1) := by kernel_rfl
theorem fld172n9 : fld Tryz.prog 172 9 = some (9, false, 1) := by kernel_rfl
theorem fld172n10 : fld Tryz.prog 172 10 = some (10, false, 1) := by kernel_rfl
theorem bok172 : bldOk Tryz.prog 172 = true := by kernel_rfl
theorem zro172 : zro Tryz.prog 172 = some (.agg #[.int .u64 0, .int .u64 0, .int .u32 0, .int .u8 0, .int .u8 0, .int .u8 0, .int .u8 0, .nilFunc, .pointer none, .int .i32 0, .int .i32 0]) := by kernel_rfl
theorem shp173 : shp Tryz.prog 173 = some (false, 1) := by kernel_rfl
theorem zro173 : zro Tryz.prog 173 = some (.pointer none) := by kernel_rfl
theorem cal2 : callable Tryz.prog 2 = true := by kernel_rfl
theorem cal3 : callable Tryz.prog 3 = true := by kernel_rfl
theorem cal4 : callable Tryz.prog 4 = true := by kernel_rfl
theorem cal5 : callable Tryz.prog 5 = true := by kernel_rfl
theorem cal6 : callable Tryz.prog 6 = true := by kernel_rfl
theorem cal7 : callable Tryz.prog 7 = true := by kernel_rfl
theorem cal8 : callable Tryz.prog 8 = true := by kernel_rfl
theorem cal9 : callable Tryz.prog 9 = true := by kernel_rfl
theorem cal10 : callable Tryz.prog 10 = true := by kernel_rfl
theorem cal11 : callable Tryz.prog 11 = true := by kernel_rfl
theorem cal12 : callable Tryz.prog 12 = true := by kernel_rfl
theorem cal13 : callable Tryz.prog 13 = true := by kernel_rfl
theorem cal14 : callable Tryz.prog 14 = true := by kernel_rfl
theorem cal15 : callable Tryz.prog 15 = true := by kernel_rfl
theorem cal16 : callable Tryz.prog 16 = true := by kernel_rfl
theorem cal17 : callable Tryz.prog 17 = true := by kernel_rfl
theorem cal18 : callable Tryz.prog 18 = true := by kernel_rfl
theorem cal19 : callable Tryz.prog 19 = true := by kernel_rfl
theorem cal20 : callable Tryz.prog 20 = true := by kernel_rfl
theorem cal21 : callable Tryz.prog 21 = true := by kernel_rfl
theorem cal22 : callable Tryz.prog 22 = true := by kernel_rfl
theorem cal23 : callable Tryz.prog 23 = true := by kernel_rfl
theorem cal24 : callable Tryz.prog 24 = true := by kernel_rfl
theorem cal25 : callable Tryz.prog 25 = true := by kernel_rfl
theorem cal26 : callable Tryz.prog 26 = true := by kernel_rfl
theorem cal27 : callable Tryz.prog 27 = true := by kernel_rfl
theorem cal28 : callable Tryz.prog 28 = true := by kernel_rfl
theorem cal29 : callable Tryz.prog 29 = true := by kernel_rfl
theorem cal30 : callable Tryz.prog 30 = true := by kernel_rfl
theorem cal31 : callable Tryz.prog 31 = true := by kernel_rfl
theorem cal32 : callable Tryz.prog 32 = true := by kernel_rfl
theorem cal33 : callable Tryz.prog 33 = true := by kernel_rfl
theorem cal34 : callable Tryz.prog 34 = true := by kernel_rfl
theorem cal35 : callable Tryz.prog 35 = true := by kernel_rfl
theorem cal36 : callable Tryz.prog 36 = true := by kernel_rfl
theorem cal37 : callable Tryz.prog 37 = true := by kernel_rfl
theorem cal38 : callable Tryz.prog 38 = true := by kernel_rfl
theorem cal39 : callable Tryz.prog 39 = true := by kernel_rfl
theorem cal40 : callable Tryz.prog 40 = true := by kernel_rfl
theorem cal41 : callable Tryz.prog 41 = true := by kernel_rfl
theorem cal42 : callable Tryz.prog 42 = true := by kernel_rfl
theorem cal43 : callable Tryz.prog 43 = true := by kernel_rfl
theorem cal44 : callable Tryz.prog 44 = true := by kernel_rfl
theorem cal45 : callable Tryz.prog 45 = true := by kernel_rfl
theorem cal46 : callable Tryz.prog 46 = true := by kernel_rfl
theorem cal47 : callable Tryz.prog 47 = true := by kernel_rfl
theorem cal48 : callable Tryz.prog 48 = true := by kernel_rfl
theorem cal49 : callable Tryz.prog 49 = true := by kernel_rfl
theorem cal50 : callable Tryz.prog 50 = true := by kernel_rfl
theorem cal51 : callable Tryz.prog 51 = true := by kernel_rfl
theorem cal52 : callable Tryz.prog 52 = true := by kernel_rfl
theorem cal53 : callable Tryz.prog 53 = true := by kernel_rfl
theorem cal54 : callable Tryz.prog 54 = true := by kernel_rfl
theorem cal55 : callable Tryz.prog 55 = true := by kernel_rfl
theorem cal56 : callable Tryz.prog 56 = true := by kernel_rfl
theorem cal57 : callable Tryz.prog 57 = true := by kernel_rfl
theorem cal58 : callable Tryz.prog 58 = true := by kernel_rfl
theorem cal59 : callable Tryz.prog 59 = true := by kernel_rfl
theorem cal60 : callable Tryz.prog 60 = true := by kernel_rfl
theorem cal61 : callable Tryz.prog 61 = true := by kernel_rfl
theorem cal62 : callable Tryz.prog 62 = true := by kernel_rfl
theorem cal63 : callable Tryz.prog 63 = true := by kernel_rfl
theorem cal64 : callable Tryz.prog 64 = true := by kernel_rfl
theorem cal65 : callable Tryz.prog 65 = true := by kernel_rfl
theorem cal66 : callable Tryz.prog 66 = true := by kernel_rfl
theorem cal67 : callable Tryz.prog 67 = true := by kernel_rfl
theorem cal68 : callable Tryz.prog 68 = true := by kernel_rfl
theorem cal69 : callable Tryz.prog 69 = true := by kernel_rfl
theorem cal70 : callable Tryz.prog 70 = true := by kernel_rfl
theorem cal71 : callable Tryz.prog 71 = true := by kernel_rfl
theorem cal72 : callable Tryz.prog 72 = true := by kernel_rfl
theorem cal73 : callable Tryz.prog 73 = true := by kernel_rfl
theorem cal74 : callable Tryz.prog 74 = true := by kernel_rfl
theorem cal75 : callable Tryz.prog 75 = true := by kernel_rfl
theorem cal76 : callable Tryz.prog 76 = true := by kernel_rfl
theorem cal77 : callable Tryz.prog 77 = true := by kernel_rfl
theorem cal78 : callable Tryz.prog 78 = true := by kernel_rfl
theorem cal79 : callable Tryz.prog 79 = true := by kernel_rfl
theorem cal80 : callable Tryz.prog 80 = true := by kernel_rfl
theorem cal81 : callable Tryz.prog 81 = true := by kernel_rfl
theorem cal82 : callable Tryz.prog 82 = true := by kernel_rfl
theorem cal83 : callable Tryz.prog 83 = true := by kernel_rfl
theorem cal84 : callable Tryz.prog 84 = true := by kernel_rfl
theorem cal85 : callable Tryz.prog 85 = true := by kernel_rfl
theorem cal86 : callable Tryz.prog 86 = true := by kernel_rfl
theorem cal87 : callable Tryz.prog 87 = true := by kernel_rfl
theorem cal88 : callable Tryz.prog 88 = true := by kernel_rfl
theorem cal89 : callable Tryz.prog 89 = true := by kernel_rfl
theorem cal91 : callable Tryz.prog 91 = true := by kernel_rfl
theorem cal92 : callable Tryz.prog 92 = true := by kernel_rfl
theorem cal93 : callable Tryz.prog 93 = true := by kernel_rfl
theorem cal94 : callable Tryz.prog 94 = true := by kernel_rfl
theorem cal95 : callable Tryz.prog 95 = true := by kernel_rfl
theorem cal96 : callable Tryz.prog 96 = true := by kernel_rfl
theorem cal97 : callable Tryz.prog 97 = true := by kernel_rfl
theorem cal98 : callable Tryz.prog 98 = true := by kernel_rfl
theorem cal99 : callable Tryz.prog 99 = true := by kernel_rfl
theorem cal100 : callable Tryz.prog 100 = true := by kernel_rfl
theorem cal101 : callable Tryz.prog 101 = true := by kernel_rfl
theorem cal103 : callable Tryz.prog 103 = true := by kernel_rfl
theorem cal104 : callable Tryz.prog 104 = true := by kernel_rfl
theorem cal126 : callable Tryz.prog 126 = true := by kernel_rfl
theorem cal0 : callable Tryz.prog 0 = false := by kernel_rfl
theorem cal1 : callable Tryz.prog 1 = false := by kernel_rfl
theorem cal90 : callable Tryz.prog 90 = false := by kernel_rfl
theorem cal102 : callable Tryz.prog 102 = false := by kernel_rfl
theorem cal105 : callable Tryz.prog 105 = false := by kernel_rfl
theorem cal106 : callable Tryz.prog 106 = false := by kernel_rfl
theorem cal107 : callable Tryz.prog 107 = false := by kernel_rfl
theorem cal108 : callable Tryz.prog 108 = false := by kernel_rfl
theorem cal109 : callable Tryz.prog 109 = false := by kernel_rfl
theorem cal110 : callable Tryz.prog 110 = false := by kernel_rfl
theorem cal111 : callable Tryz.prog 111 = false := by kernel_rfl
theorem cal112 : callable Tryz.prog 112 = false := by kernel_rfl
theorem cal113 : callable Tryz.prog 113 = false := by kernel_rfl
theorem cal114 : callable Tryz.prog 114 = false := by kernel_rfl
theorem cal115 : callable Tryz.prog 115 = false := by kernel_rfl
theorem cal116 : callable Tryz.prog 116 = false := by kernel_rfl
theorem cal117 : callable Tryz.prog 117 = false := by kernel_rfl
theorem cal118 : callable Tryz.prog 118 = false := by kernel_rfl
theorem cal119 : callable Tryz.prog 119 = false := by kernel_rfl
theorem cal120 : callable Tryz.prog 120 = false := by kernel_rfl
theorem cal121 : callable Tryz.prog 121 = false := by kernel_rfl
theorem cal122 : callable Tryz.prog 122 = false := by kernel_rfl
theorem cal123 : callable Tryz.prog 123 = false := by kernel_rfl
theorem cal124 : callable Tryz.prog 124 = false := by kernel_rfl
theorem cal125 : callable Tryz.prog 125 = false := by kernel_rfl
theorem tyS0 : type_of% (And.intro @shp2 (And.intro @zro2 (And.intro @shp3 (And.intro @zro3 (And.intro @shp4 (And.intro @zro4 (And.intro @shp5 (And.intro @zro5 (And.intro @shp6 (And.intro @zro6 (And.intro @shp7 (And.intro @fld7n0 (And.intro @fld7n1 (And.intro @fld7n2 (And.intro @fld7n3 (And.intro @bok7 (And.intro @zro7 (And.intro @shp8 (And.intro @fld8n0 (And.intro @fld8n1 (And.intro @fld8n2 (And.intro @fld8n3 (And.intro @bok8 (And.intro @zro8 (And.intro @shp9 (And.intro @zro9 (And.intro @shp10 (And.intro @zro10 (And.intro @shp11 (And.intro @zro11 (And.intro @shp12 (And.intro @zro12 (And.intro @shp13 (And.intro @fld13n0 (And.intro @fld13n1 (And.intro @bok13 (And.intro @zro13 (And.intro @shp14 (And.intro @fld14n0 (And.intro @fld14n1 (And.intro @bok14 (And.intro @zro14 (And.intro @shp15 (And.intro @zro15 (And.intro @shp16 (And.intro @zro16 (And.intro @shp17 (And.intro @zro17 (And.intro @shp18 (And.intro @fld18n0 (And.intro @bok18 (And.intro @zro18 (And.intro @shp19 (And.intro @fld19n0 (And.intro @bok19 (And.intro @zro19 (And.intro @shp20 (And.intro @zro20 (And.intro @shp21 (And.intro @zro21 (And.intro @shp22 (And.intro @zro22 (And.intro @slc22 (And.intro @shp23 (And.intro @zro23 (And.intro @shp26 (And.intro @fld26n0 (And.intro @fld26n1 (And.intro @bok26 (And.intro @sih26 (And.intro @egt26 (And.intro @zro26 (And.intro @shp27 (And.intro @fld27n0 (And.intro @fld27n1 (And.intro @bok27 (And.intro @sih27 (And.intro @egt27 (And.intro @zro27 (And.intro @shp28 (And.intro @fld28n0 (And.intro @fld28n1 (And.intro @fld28n2 (And.intro @fld28n3 (And.intro @fld28n4 (And.intro @fld28n5 (And.intro @fld28n6 (And.intro @fld28n7 (And.intro @fld28n8 (And.intro @fld28n9 (And.intro @fld28n10 (And.intro @bok28 (And.intro @sih28 (And.intro @egt28 (And.intro @zro28 (And.intro @shp29 (And.intro @fld29n0 (And.intro @fld29n1 (And.intro @fld29n2 (@fld29n3)))))))))))))))))))))))))))))))))))))))))))))))))))))))))))))))))))))))))))))))))))))))))))))))))))) := And.intro @shp2 (And.intro @zro2 (And.intro @shp3 (And.intro @zro3 (And.intro @shp4 (And.intro @zro4 (And.intro @shp5 (And.intro @zro5 (And.intro @shp6 (And.intro @zro6 (And.intro @shp7 (And.intro @fld7n0 (And.intro @fld7n1 (And.intro @fld7n2 (And.intro @fld7n3 (And.intro @bok7 (And.intro @zro7 (And.intro @shp8 (And.intro @fld8n0 (And.intro @fld8n1 (And.intro @fld8n2 (And.intro @fld8n3 (And.intro @bok8 (And.intro @zro8 (And.intro @shp9 (And.intro @zro9 (And.intro @shp10 (And.intro @zro10 (And.intro @shp11 (And.intro @zro11 (And.intro @shp12 (And.intro @zro12 (And.intro @shp13 (And.intro @fld13n0 (And.intro @fld13n1 (And.intro @bok13 (And.intro @zro13 (And.intro @shp14 (And.intro @fld14n0 (And.intro @fld14n1 (And.intro @bok14 (And.intro @zro14 (And.intro @shp15 (And.intro @zro15 (And.intro @shp16 (And.intro @zro16 (And.intro @shp17 (And.intro @zro17 (And.intro @shp18 (And.intro @fld18n0 (And.intro @bok18 (And.intro @zro18 (And.intro @shp19 (And.intro @fld19n0 (And.intro @bok19 (And.intro @zro19 (And.intro @shp20 (And.intro @zro20 (And.intro @shp21 (And.intro @zro21 (And.intro @shp22 (And.intro @zro22 (And.intro @slc22 (And.intro @shp23 (And.intro @zro23 (And.intro @shp26 (And.intro @fld26n0 (And.intro @fld26n1 (And.intro @bok26 (And.intro @sih26 (And.intro @egt26 (And.intro @zro26 (And.intro @shp27 (And.intro @fld27n0 (And.intro @fld27n1 (And.intro @bok27 (And.intro @sih27 (And.intro @egt27 (And.intro @zro27 (And.intro @shp28 (And.intro @fld28n0 (And.intro @fld28n1 (And.intro @fld28n2 (And.intro @fld28n3 (And.intro @fld28n4 (And.intro @fld28n5 (And.intro @fld28n6 (And.intro @fld28n7 (And.intro @fld28n8 (And.intro @fld28n9 (And.intro @fld28n10 (And.intro @bok28 (And.intro @sih28 (And.intro @egt28 (And.intro @zro28 (And.intro @shp29 (And.intro @fld29n0 (And.intro @fld29n1 (And.intro @fld29n2 (@fld29n3)))))))))))))))))))))))))))))))))))))))))))))))))))))))))))))))))))))))))))))))))))))))))))))))))))
theorem tyS1 : type_of% (And.intro @fld29n4 (And.intro @fld29n5 (And.intro @fld29n6 (And.intro @fld29n7 (And.intro @fld29n8 (And.intro @fld29n9 (And.intro @fld29n10 (And.intro @bok29 (And.intro @sih29 (And.intro @egt29 (And.intro @zro29 (And.intro @shp31 (And.intro @zro31 (And.intro @shp34 (And.intro @zro34 (And.intro @shp37 (And.intro @zro37 (And.intro @slc37 (And.intro @shp38 (And.intro @fld38n0 (And.intro @fld38n1 (And.intro @fld38n2 (And.intro @bok38 (And.intro @sih38 (And.intro @egt38 (And.intro @zro38 (And.intro @shp39 (And.intro @fld39n0 (And.intro @fld39n1 (And.intro @fld39n2 (And.intro @bok39 (And.intro @sih39 (And.intro @egt39 (And.intro @zro39 (And.intro @shp42 (And.intro @fld42n0 (And.intro @fld42n1 (And.intro @fld42n2 (And.intro @fld42n3 (And.intro @fld42n4 (And.intro @fld42n5 (And.intro @fld42n6 (And.intro @fld42n7 (And.intro @fld42n8 (And.intro @bok42 (And.intro @sih42 (And.intro @egt42 (And.intro @zro42 (And.intro @shp43 (And.intro @fld43n0 (And.intro @fld43n1 (And.intro @fld43n2 (And.intro @fld43n3 (And.intro @fld43n4 (And.intro @fld43n5 (And.intro @fld43n6 (And.intro @fld43n7 (And.intro @fld43n8 (And.intro @bok43 (And.intro @sih43 (And.intro @egt43 (And.intro @zro43 (And.intro @shp46 (And.intro @zro46 (And.intro @slc46 (And.intro @shp56 (And.intro @fld56n0 (And.intro @fld56n1 (And.intro @fld56n2 (And.intro @fld56n3 (And.intro @fld56n4 (And.intro @fld56n5 (And.intro @fld56n6 (And.intro @bok56 (And.intro @sih56 (And.intro @egt56 (And.intro @zro56 (And.intro @shp57 (And.intro @fld57n0 (And.intro @fld57n1 (And.intro @fld57n2 (And.intro @fld57n3 (And.intro @fld57n4 (And.intro @fld57n5 (And.intro @fld57n6 (And.intro @bok57 (And.intro @sih57 (And.intro @egt57 (And.intro @zro57 (And.intro @shp58 (And.intro @zro58 (And.intro @slc58 (And.intro @shp59 (And.intro @zro59 (And.intro @slc59 (And.intro @shp62 (And.intro @zro62 (And.intro @slc62 (And.intro @shp63 (@zro63)))))))))))))))))))))))))))))))))))))))))))))))))))))))))))))))))))))))))))))))))))))))))))))))))))) := And.intro @fld29n4 (And.intro @fld29n5 (And.intro @fld29n6 (And.intro @fld29n7 (And.intro @fld29n8 (And.intro @fld29n9 (And.intro @fld29n10 (And.intro @bok29 (And.intro @sih29 (And.intro @egt29 (And.intro @zro29 (And.intro @shp31 (And.intro @zro31 (And.intro @shp34 (And.intro @zro34 (And.intro @shp37 (And.intro @zro37 (And.intro @slc37 (And.intro @shp38 (And.intro @fld38n0 (And.intro @fld38n1 (And.intro @fld38n2 (And.intro @bok38 (And.intro @sih38 (And.intro @egt38 (And.intro @zro38 (And.intro @shp39 (And.intro @fld39n0 (And.intro @fld39n1 (And.intro @fld39n2 (And.intro @bok39 (And.intro @sih39 (And.intro @egt39 (And.intro @zro39 (And.intro @shp42 (And.intro @fld42n0 (And.intro @fld42n1 (And.intro @fld42n2 (And.intro @fld42n3 (And.intro @fld42n4 (And.intro @fld42n5 (And.intro @fld42n6 (And.intro @fld42n7 (And.intro @fld42n8 (And.intro @bok42 (And.intro @sih42 (And.intro @egt42 (And.intro @zro42 (And.intro @shp43 (And.intro @fld43n0 (And.intro @fld43n1 (And.intro @fld43n2 (And.intro @fld43n3 (And.intro @fld43n4 (And.intro @fld43n5 (And.intro @fld43n6 (And.intro @fld43n7 (And.intro @fld43n8 (And.intro @bok43 (And.intro @sih43 (And.intro @egt43 (And.intro @zro43 (And.intro @shp46 (And.intro @zro46 (And.intro @slc46 (And.intro @shp56 (And.intro @fld56n0 (And.intro @fld56n1 (And.intro @fld56n2 (And.intro @fld56n3 (And.intro @fld56n4 (And.intro @fld56n5 (And.intro @fld56n6 (And.intro @bok56 (And.intro @sih56 (And.intro @egt56 (And.intro @zro56 (And.intro @shp57 (And.intro @fld57n0 (And.intro @fld57n1 (And.intro @fld57n2 (And.intro @fld57n3 (And.intro @fld57n4 (And.intro @fld57n5 (And.intro @fld57n6 (And.intro @bok57 (And.intro @sih57 (And.intro @egt57 (And.intro @zro57 (And.intro @shp58 (And.intro @zro58 (And.intro @slc58 (And.intro @shp59 (And.intro @zro59 (And.intro @slc59 (And.intro @shp62 (And.intro @zro62 (And.intro @slc62 (And.intro @shp63 (@zro63)))))))))))))))))))))))))))))))))))))))))))))))))))))))))))))))))))))))))))))))))))))))))))))))))))
theorem tyS2 : type_of% (And.intro @shp64 (And.intro @fld64n0 (And.intro @fld64n1 (And.intro @fld64n2 (And.intro @bok64 (And.intro @sih64 (And.intro @egt64 (And.intro @zro64 (And.intro @shp65 (And.intro @fld65n0 (And.intro @fld65n1 (And.intro @fld65n2 (And.intro @bok65 (And.intro @sih65 (And.intro @egt65 (And.intro @zro65 (And.intro @shp67 (And.intro @fld67n0 (And.intro @fld67n1 (And.intro @fld67n2 (And.intro @bok67 (And.intro @sih67 (And.intro @egt67 (And.intro @zro67 (And.intro @shp68 (And.intro @fld68n0 (And.intro @fld68n1 (And.intro @fld68n2 (And.intro @bok68 (And.intro @sih68 (And.intro @egt68 (And.intro @zro68 (And.intro @shp70 (And.intro @zro70 (And.intro @shp71 (And.intro @zro71 (And.intro @slc71 (And.intro @shp75 (And.intro @zro75 (And.intro @shp76 (And.intro @fld76n0 (And.intro @fld76n1 (And.intro @bok76 (And.intro @sih76 (And.intro @egt76 (And.intro @zro76 (And.intro @shp77 (And.intro @fld77n0 (And.intro @fld77n1 (And.intro @bok77 (And.intro @sih77 (And.intro @egt77 (And.intro @zro77 (And.intro @shp92 (And.intro @bok92 (And.intro @zro92 (And.intro @shp93 (And.intro @bok93 (And.intro @zro93 (And.intro @shp104 (And.intro @zro104 (And.intro @shp105 (And.intro @zro105 (And.intro @shp106 (And.intro @zro106 (And.intro @shp107 (And.intro @fld107n0 (And.intro @fld107n1 (And.intro @fld107n2 (And.intro @bok107 (And.intro @sih107 (And.intro @egt107 (And.intro @zro107 (And.intro @shp108 (And.intro @fld108n0 (And.intro @fld108n1 (And.intro @fld108n2 (And.intro @bok108 (And.intro @sih108 (And.intro @egt108 (And.intro @zro108 (And.intro @shp112 (And.intro @fld112n0 (And.intro @fld112n1 (And.intro @fld112n2 (And.intro @fld112n3 (And.intro @fld112n4 (And.intro @fld112n5 (And.intro @fld112n6 (And.intro @fld112n7 (And.intro @fld112n8 (And.intro @fld112n9 (And.intro @fld112n10 (And.intro @bok112 (And.intro @sih112 (And.intro @egt112 (And.intro @zro112 (And.intro @shp113 (And.intro @zro113 (@slc113)))))))))))))))))))))))))))))))))))))))))))))))))))))))))))))))))))))))))))))))))))))))))))))))))))) := And.intro @shp64 (And.intro @fld64n0 (And.intro @fld64n1 (And.intro @fld64n2 (And.intro @bok64 (And.intro @sih64 (And.intro @egt64 (And.intro @zro64 (And.intro @shp65 (And.intro @fld65n0 (And.intro @fld65n1 (And.intro @fld65n2 (And.intro @bok65 (And.intro @sih65 (And.intro @egt65 (And.intro @zro65 (And.intro @shp67 (And.intro @fld67n0 (And.intro @fld67n1 (And.intro @fld67n2 (And.intro @bok67 (And.intro @sih67 (And.intro @egt67 (And.intro @zro67 (And.intro @shp68 (And.intro @fld68n0 (And.intro @fld68n1 (And.intro @fld68n2 (And.intro @bok68 (And.intro @sih68 (And.intro @egt68 (And.intro @zro68 (And.intro @shp70 (And.intro @zro70 (And.intro @shp71 (And.intro @zro71 (And.intro @slc71 (And.intro @shp75 (And.intro @zro75 (And.intro @shp76 (And.intro @fld76n0 (And.intro @fld76n1 (And.intro @bok76 (And.intro @sih76 (And.intro @egt76 (And.intro @zro76 (And.intro @shp77 (And.intro @fld77n0 (And.intro @fld77n1 (And.intro @bok77 (And.intro @sih77 (And.intro @egt77 (And.intro @zro77 (And.intro @shp92 (And.intro @bok92 (And.intro @zro92 (And.intro @shp93 (And.intro @bok93 (And.intro @zro93 (And.intro @shp104 (And.intro @zro104 (And.intro @shp105 (And.intro @zro105 (And.intro @shp106 (And.intro @zro106 (And.intro @shp107 (And.intro @fld107n0 (And.intro @fld107n1 (And.intro @fld107n2 (And.intro @bok107 (And.intro @sih107 (And.intro @egt107 (And.intro @zro107 (And.intro @shp108 (And.intro @fld108n0 (And.intro @fld108n1 (And.intro @fld108n2 (And.intro @bok108 (And.intro @sih108 (And.intro @egt108 (And.intro @zro108 (And.intro @shp112 (And.intro @fld112n0 (And.intro @fld112n1 (And.intro @fld112n2 (And.intro @fld112n3 (And.intro @fld112n4 (And.intro @fld112n5 (And.intro @fld112n6 (And.intro @fld112n7 (And.intro @fld112n8 (And.intro @fld112n9 (And.intro @fld112n10 (And.intro @bok112 (And.intro @sih112 (And.intro @egt112 (And.intro @zro112 (And.intro @shp113 (And.intro @zro113 (@slc113)))))))))))))))))))))))))))))))))))))))))))))))))))))))))))))))))))))))))))))))))))))))))))))))))))
theorem tyS3 : type_of% (And.intro @shp121 (And.intro @zro121 (And.intro @shp129 (And.intro @zro129 (And.intro @shp134 (And.intro @zro134 (And.intro @shp138 (And.intro @zro138 (And.intro @shp144 (And.intro @zro144 (And.intro @shp148 (And.intro @bok148 (And.intro @zro148 (And.intro @shp150 (And.intro @zro150 (And.intro @slc150 (And.intro @shp154 (And.intro @bok154 (And.intro @zro154 (And.intro @shp155 (And.intro @bok155 (And.intro @zro155 (And.intro @shp156 (And.intro @bok156 (And.intro @zro156 (And.intro @shp157 (And.intro @bok157 (And.intro @zro157 (And.intro @shp159 (And.intro @fld159n0 (And.intro @fld159n1 (And.intro @fld159n2 (And.intro @fld159n3 (And.intro @bok159 (And.intro @zro159 (And.intro @shp160 (And.intro @fld160n0 (And.intro @fld160n1 (And.intro @fld160n2 (And.intro @fld160n3 (And.intro @bok160 (And.intro @zro160 (And.intro @shp161 (And.intro @bok161 (And.intro @zro161 (And.intro @shp162 (And.intro @fld162n0 (And.intro @bok162 (And.intro @zro162 (And.intro @shp163 (And.intro @fld163n0 (And.intro @bok163 (And.intro @zro163 (And.intro @shp165 (And.intro @zro165 (And.intro @shp166 (And.intro @zro166 (And.intro @shp168 (And.intro @zro168 (And.intro @shp169 (And.intro @zro169 (And.intro @shp170 (And.intro @zro170 (And.intro @shp171 (And.intro @fld171n0 (And.intro @fld171n1 (And.intro @fld171n2 (And.intro @fld171n3 (And.intro @fld171n4 (And.intro @fld171n5 (And.intro @fld171n6 (And.intro @fld171n7 (And.intro @fld171n8 (And.intro @fld171n9 (And.intro @fld171n10 (And.intro @bok171 (And.intro @zro171 (And.intro @shp172 (And.intro @fld172n0 (And.intro @fld172n1 (And.intro @fld172n2 (And.intro @fld172n3 (And.intro @fld172n4 (And.intro @fld172n5 (And.intro @fld172n6 (And.intro @fld172n7 (And.intro @fld172n8 (And.intro @fld172n9 (And.intro @fld172n10 (And.intro @bok172 (And.intro @zro172 (And.intro @shp173 (And.intro @zro173 (And.intro @cal2 (And.intro @cal3 (And.intro @cal4 (And.intro @cal5 (And.intro @cal6 (And.intro @cal7 (@cal8)))))))))))))))))))))))))))))))))))))))))))))))))))))))))))))))))))))))))))))))))))))))))))))))))))) := And.intro @shp121 (And.intro @zro121 (And.intro @shp129 (And.intro @zro129 (And.intro @shp134 (And.intro @zro134 (And.intro @shp138 (And.intro @zro138 (And.intro @shp144 (And.intro @zro144 (And.intro @shp148 (And.intro @bok148 (And.intro @zro148 (And.intro @shp150 (And.intro @zro150 (And.intro @slc150 (And.intro @shp154 (And.intro @bok154 (And.intro @zro154 (And.intro @shp155 (And.intro @bok155 (And.intro @zro155 (And.intro @shp156 (And.intro @bok156 (And.intro @zro156 (And.intro @shp157 (And.intro @bok157 (And.intro @zro157 (And.intro @shp159 (And.intro @fld159n0 (And.intro @fld159n1 (And.intro @fld159n2 (And.intro @fld159n3 (And.intro @bok159 (And.intro @zro159 (And.intro @shp160 (And.intro @fld160n0 (And.intro @fld160n1 (And.intro @fld160n2 (And.intro @fld160n3 (And.intro @bok160 (And.intro @zro160 (And.intro @shp161 (And.intro @bok161 (And.intro @zro161 (And.intro @shp162 (And.intro @fld162n0 (And.intro @bok162 (And.intro @zro162 (And.intro @shp163 (And.intro @fld163n0 (And.intro @bok163 (And.intro @zro163 (And.intro @shp165 (And.intro @zro165 (And.intro @shp166 (And.intro @zro166 (And.intro @shp168 (And.intro @zro168 (And.intro @shp169 (And.intro @zro169 (And.intro @shp170 (And.intro @zro170 (And.intro @shp171 (And.intro @fld171n0 (And.intro @fld171n1 (And.intro @fld171n2 (And.intro @fld171n3 (And.intro @fld171n4 (And.intro @fld171n5 (And.intro @fld171n6 (And.intro @fld171n7 (And.intro @fld171n8 (And.intro @fld171n9 (And.intro @fld171n10 (And.intro @bok171 (And.intro @zro171 (And.intro @shp172 (And.intro @fld172n0 (And.intro @fld172n1 (And.intro @fld172n2 (And.intro @fld172n3 (And.intro @fld172n4 (And.intro @fld172n5 (And.intro @fld172n6 (And.intro @fld172n7 (And.intro @fld172n8 (And.intro @fld172n9 (And.intro @fld172n10 (And.intro @bok172 (And.intro @zro172 (And.intro @shp173 (And.intro @zro173 (And.intro @cal2 (And.intro @cal3 (And.intro @cal4 (And.intro @cal5 (And.intro @cal6 (And.intro @cal7 (@cal8)))))))))))))))))))))))))))))))))))))))))))))))))))))))))))))))))))))))))))))))))))))))))))))))))))
theorem tyS4 : type_of% (And.intro @cal9 (And.intro @cal10 (And.intro @cal11 (And.intro @cal12 (And.intro @cal13 (And.intro @cal14 (And.intro @cal15 (And.intro @cal16 (And.intro @cal17 (And.intro @cal18 (And.intro @cal19 (And.intro @cal20 (And.intro @cal21 (And.intro @cal22 (And.intro @cal23 (And.intro @cal24 (And.intro @cal25 (And.intro @cal26 (And.intro @cal27 (And.intro @cal28 (And.intro @cal29 (And.intro @cal30 (And.intro @cal31 (And.intro @cal32 (And.intro @cal33 (And.intro @cal34 (And.intro @cal35 (And.intro @cal36 (And.intro @cal37 (And.intro @cal38 (And.intro @cal39 (And.intro @cal40 (And.intro @cal41 (And.intro @cal42 (And.intro @cal43 (And.intro @cal44 (And.intro @cal45 (And.intro @cal46 (And.intro @cal47 (And.intro @cal48 (And.intro @cal49 (And.intro @cal50 (And.intro @cal51 (And.intro @cal52 (And.intro @cal53 (And.intro @cal54 (And.intro @cal55 (And.intro @cal56 (And.intro @cal57 (And.intro @cal58 (And.intro @cal59 (And.intro @cal60 (And.intro @cal61 (And.intro @cal62 (And.intro @cal63 (And.intro @cal64 (And.intro @cal65 (And.intro @cal66 (And.intro @cal67 (And.intro @cal68 (And.intro @cal69 (And.intro @cal70 (And.intro @cal71 (And.intro @cal72 (And.intro @cal73 (And.intro @cal74 (And.intro @cal75 (And.intro @cal76 (And.intro @cal77 (And.intro @cal78 (And.intro @cal79 (And.intro @cal80 (And.intro @cal81 (And.intro @cal82 (And.intro @cal83 (And.intro @cal84 (And.intro @cal85 (And.intro @cal86 (And.intro @cal87 (And.intro @cal88 (And.intro @cal89 (And.intro @cal91 (And.intro @cal92 (And.intro @cal93 (And.intro @cal94 (And.intro @cal95 (And.intro @cal96 (And.intro @cal97 (And.intro @cal98 (And.intro @cal99 (And.intro @cal100 (And.intro @cal101 (And.intro @cal103 (And.intro @cal104 (And.intro @cal126 (And.intro @cal0 (And.intro @cal1 (And.intro @cal90 (And.intro @cal102 (@cal105)))))))))))))))))))))))))))))))))))))))))))))))))))))))))))))))))))))))))))))))))))))))))))))))))))) := And.intro @cal9 (And.intro @cal10 (And.intro @cal11 (And.intro @cal12 (And.intro @cal13 (And.intro @cal14 (And.intro @cal15 (And.intro @cal16 (And.intro @cal17 (And.intro @cal18 (And.intro @cal19 (And.intro @cal20 (And.intro @cal21 (And.intro @cal22 (And.intro @cal23 (And.intro @cal24 (And.intro @cal25 (And.intro @cal26 (And.intro @cal27 (And.intro @cal28 (And.intro @cal29 (And.intro @cal30 (And.intro @cal31 (And.intro @cal32 (And.intro @cal33 (And.intro @cal34 (And.intro @cal35 (And.intro @cal36 (And.intro @cal37 (And.intro @cal38 (And.intro @cal39 (And.intro @cal40 (And.intro @cal41 (And.intro @cal42 (And.intro @cal43 (And.intro @cal44 (And.intro @cal45 (And.intro @cal46 (And.intro @cal47 (And.intro @cal48 (And.intro @cal49 (And.intro @cal50 (And.intro @cal51 (And.intro @cal52 (And.intro @cal53 (And.intro @cal54 (And.intro @cal55 (And.intro @cal56 (And.intro @cal57 (And.intro @cal58 (And.intro @cal59 (And.intro @cal60 (And.intro @cal61 (And.intro @cal62 (And.intro @cal63 (And.intro @cal64 (And.intro @cal65 (And.intro @cal66 (And.intro @cal67 (And.intro @cal68 (And.intro @cal69 (And.intro @cal70 (And.intro @cal71 (And.intro @cal72 (And.intro @cal73 (And.intro @cal74 (And.intro @cal75 (And.intro @cal76 (And.intro @cal77 (And.intro @cal78 (And.intro @cal79 (And.intro @cal80 (And.intro @cal81 (And.intro @cal82 (And.intro @cal83 (And.intro @cal84 (And.intro @cal85 (And.intro @cal86 (And.intro @cal87 (And.intro @cal88 (And.intro @cal89 (And.intro @cal91 (And.intro @cal92 (And.intro @cal93 (And.intro @cal94 (And.intro @cal95 (And.intro @cal96 (And.intro @cal97 (And.intro @cal98 (And.intro @cal99 (And.intro @cal100 (And.intro @cal101 (And.intro @cal103 (And.intro @cal104 (And.intro @cal126 (And.intro @cal0 (And.intro @cal1 (And.intro @cal90 (And.intro @cal102 (@cal105)))))))))))))))))))))))))))))))))))))))))))))))))))))))))))))))))))))))))))))))))))))))))))))))))))
theorem tyS5 : type_of% (And.intro @cal106 (And.intro @cal107 (And.intro @cal108 (And.intro @cal109 (And.intro @cal110 (And.intro @cal111 (And.intro @cal112 (And.intro @cal113 (And.intro @cal114 (And.intro @cal115 (And.intro @cal116 (And.intro @cal117 (And.intro @cal118 (And.intro @cal119 (And.intro @cal120 (And.intro @cal121 (And.intro @cal122 (And.intro @cal123 (And.intro @cal124 (And.intro @cal125 (And.intro @Tryz.underlying2 (And.intro @Tryz.underlying3 (And.intro @Tryz.underlying4 (And.intro @Tryz.underlying5 (And.intro @Tryz.underlying6 (And.intro @Tryz.underlying7 (And.intro @Tryz.underlying8 (And.intro @Tryz.underlying9 (And.intro @Tryz.underlying10 (And.intro @Tryz.underlying11 (And.intro @Tryz.underlying12 (And.intro @Tryz.underlying13 (And.intro @Tryz.underlying14 (And.intro @Tryz.underlying15 (And.intro @Tryz.underlying16 (And.intro @Tryz.underlying17 (And.intro @Tryz.underlying18 (And.intro @Tryz.underlying19 (And.intro @Tryz.underlying21 (And.intro @Tryz.underlying22 (And.intro @Tryz.underlying23 (And.intro @Tryz.underlying26 (And.intro @Tryz.underlying27 (And.intro @Tryz.underlying28 (And.intro @Tryz.underlying29 (And.intro @Tryz.underlying31 (And.intro @Tryz.underlying34 (And.intro @Tryz.underlying37 (And.intro @Tryz.underlying38 (And.intro @Tryz.underlying39 (And.intro @Tryz.underlying42 (And.intro @Tryz.underlying43 (And.intro @Tryz.underlying46 (And.intro @Tryz.underlying56 (And.intro @Tryz.underlying57 (And.intro @Tryz.underlying58 (And.intro @Tryz.underlying59 (And.intro @Tryz.underlying62 (And.intro @Tryz.underlying63 (And.intro @Tryz.underlying64 (And.intro @Tryz.underlying65 (And.intro @Tryz.underlying67 (And.intro @Tryz.underlying68 (And.intro @Tryz.underlying70 (And.intro @Tryz.underlying71 (And.intro @Tryz.underlying75 (And.intro @Tryz.underlying76 (And.intro @Tryz.underlying77 (And.intro @Tryz.underlying92 (And.intro @Tryz.underlying93 (And.intro @Tryz.underlying104 (And.intro @Tryz.underlying105 (And.intro @Tryz.underlying106 (And.intro @Tryz.underlying107 (And.intro @Tryz.underlying108 (And.intro @Tryz.underlying112 (And.intro @Tryz.underlying113 (And.intro @Tryz.underlying121 (And.intro @Tryz.underlying129 (And.intro @Tryz.underlying134 (And.intro @Tryz.underlying138 (And.intro @Tryz.underlying144 (And.intro @Tryz.underlying148 (And.intro @Tryz.underlying150 (And.intro @Tryz.underlying154 (And.intro @Tryz.underlying155 (And.intro @Tryz.underlying156 (And.intro @Tryz.underlying157 (And.intro @Tryz.underlying159 (And.intro @Tryz.underlying160 (And.intro @Tryz.underlying161 (And.intro @Tryz.underlying162 (And.intro @Tryz.underlying163 (And.intro @Tryz.underlying165 (And.intro @Tryz.underlying166 (And.intro @Tryz.underlying168 (And.intro @Tryz.underlying169 (And.intro @Tryz.underlying170 (And.intro @Tryz.underlying171 (@Tryz.underlying172)))))))))))))))))))))))))))))))))))))))))))))))))))))))))))))))))))))))))))))))))))))))))))))))))))) := And.intro @cal106 (And.intro @cal107 (And.intro @cal108 (And.intro @cal109 (And.intro @cal110 (And.intro @cal111 (And.intro @cal112 (And.intro @cal113 (And.intro @cal114 (And.intro @cal115 (And.intro @cal116 (And.intro @cal117 (And.intro @cal118 (And.intro @cal119 (And.intro @cal120 (And.intro @cal121 (And.intro @cal122 (And.intro @cal123 (And.intro @cal124 (And.intro @cal125 (And.intro @Tryz.underlying2 (And.intro @Tryz.underlying3 (And.intro @Tryz.underlying4 (And.intro @Tryz.underlying5 (And.intro @Tryz.underlying6 (And.intro @Tryz.underlying7 (And.intro @Tryz.underlying8 (And.intro @Tryz.underlying9 (And.intro @Tryz.underlying10 (And.intro @Tryz.underlying11 (And.intro @Tryz.underlying12 (And.intro @Tryz.underlying13 (And.intro @Tryz.underlying14 (And.intro @Tryz.underlying15 (And.intro @Tryz.underlying16 (And.intro @Tryz.underlying17 (And.intro @Tryz.underlying18 (And.intro @Tryz.underlying19 (And.intro @Tryz.underlying21 (And.intro @Tryz.underlying22 (And.intro @Tryz.underlying23 (And.intro @Tryz.underlying26 (And.intro @Tryz.underlying27 (And.intro @Tryz.underlying28 (And.intro @Tryz.underlying29 (And.intro @Tryz.underlying31 (And.intro @Tryz.underlying34 (And.intro @Tryz.underlying37 (And.intro @Tryz.underlying38 (And.intro @Tryz.underlying39 (And.intro @Tryz.underlying42 (And.intro @Tryz.underlying43 (And.intro @Tryz.underlying46 (And.intro @Tryz.underlying56 (And.intro @Tryz.underlying57 (And.intro @Tryz.underlying58 (And.intro @Tryz.underlying59 (And.intro @Tryz.underlying62 (And.intro @Tryz.underlying63 (And.intro @Tryz.underlying64 (And.intro @Tryz.underlying65 (And.intro @Tryz.underlying67 (And.intro @Tryz.underlying68 (And.intro @Tryz.underlying70 (And.intro @Tryz.underlying71 (And.intro @Tryz.underlying75 (And.intro @Tryz.underlying76 (And.intro @Tryz.underlying77 (And.intro @Tryz.underlying92 (And.intro @Tryz.underlying93 (And.intro @Tryz.underlying104 (And.intro @Tryz.underlying105 (And.intro @Tryz.underlying106 (And.intro @Tryz.underlying107 (And.intro @Tryz.underlying108 (And.intro @Tryz.underlying112 (And.intro @Tryz.underlying113 (And.intro @Tryz.underlying121 (And.intro @Tryz.underlying129 (And.intro @Tryz.underlying134 (And.intro @Tryz.underlying138 (And.intro @Tryz.underlying144 (And.intro @Tryz.underlying148 (And.intro @Tryz.underlying150 (And.intro @Tryz.underlying154 (And.intro @Tryz.underlying155 (And.intro @Tryz.underlying156 (And.intro @Tryz.underlying157 (And.intro @Tryz.underlying159 (And.intro @Tryz.underlying160 (And.intro @Tryz.underlying161 (And.intro @Tryz.underlying162 (And.intro @Tryz.underlying163 (And.intro @Tryz.underlying165 (And.intro @Tryz.underlying166 (And.intro @Tryz.underlying168 (And.intro @Tryz.underlying169 (And.intro @Tryz.underlying170 (And.intro @Tryz.underlying171 (@Tryz.underlying172)))))))))))))))))))))))))))))))))))))))))))))))))))))))))))))))))))))))))))))))))))))))))))))))))))
theorem tyS6 : type_of% (And.intro @Tryz.underlying173 (And.intro @Tryz.results2 (And.intro @Tryz.results3 (And.intro @Tryz.results4 (And.intro @Tryz.results5 (And.intro @Tryz.results6 (And.intro @Tryz.results7 (And.intro @Tryz.results8 (And.intro @Tryz.results9 (And.intro @Tryz.results10 (And.intro @Tryz.results11 (And.intro @Tryz.results12 (And.intro @Tryz.results13 (And.intro @Tryz.results14 (And.intro @Tryz.results15 (And.intro @Tryz.results16 (And.intro @Tryz.results17 (And.intro @Tryz.results18 (And.intro @Tryz.results19 (And.intro @Tryz.results20 (And.intro @Tryz.results21 (And.intro @Tryz.results22 (And.intro @Tryz.results23 (And.intro @Tryz.results24 (And.intro @Tryz.results25 (And.intro @Tryz.results26 (And.intro @Tryz.results27 (And.intro @Tryz.results28 (And.intro @Tryz.results29 (And.intro @Tryz.results30 (And.intro @Tryz.results31 (And.intro @Tryz.results32 (And.intro @Tryz.results33 (And.intro @Tryz.results34 (And.intro @Tryz.results35 (And.intro @Tryz.results36 (And.intro @Tryz.results37 (And.intro @Tryz.results38 (And.intro @Tryz.results39 (And.intro @Tryz.results40 (And.intro @Tryz.results41 (And.intro @Tryz.results42 (And.intro @Tryz.results43 (And.intro @Tryz.results44 (And.intro @Tryz.results45 (And.intro @Tryz.results46 (And.intro @Tryz.results47 (And.intro @Tryz.results48 (And.intro @Tryz.results49 (And.intro @Tryz.results50 (And.intro @Tryz.results51 (And.intro @Tryz.results52 (And.intro @Tryz.results53 (And.intro @Tryz.results54 (And.intro @Tryz.results55 (And.intro @Tryz.results56 (And.intro @Tryz.results57 (And.intro @Tryz.results58 (And.intro @Tryz.results59 (And.intro @Tryz.results60 (And.intro @Tryz.results61 (And.intro @Tryz.results62 (And.intro @Tryz.results63 (And.intro @Tryz.results64 (And.intro @Tryz.results65 (And.intro @Tryz.results66 (And.intro @Tryz.results67 (And.intro @Tryz.results68 (And.intro @Tryz.results69 (And.intro @Tryz.results70 (And.intro @Tryz.results71 (And.intro @Tryz.results72 (And.intro @Tryz.results73 (And.intro @Tryz.results74 (And.intro @Tryz.results75 (And.intro @Tryz.results76 (And.intro @Tryz.results77 (And.intro @Tryz.results78 (And.intro @Tryz.results79 (And.intro @Tryz.results80 (And.intro @Tryz.results81 (And.intro @Tryz.results82 (And.intro @Tryz.results83 (And.intro @Tryz.results84 (And.intro @Tryz.results85 (And.intro @Tryz.results86 (And.intro @Tryz.results87 (And.intro @Tryz.results88 (And.intro @Tryz.results89 (And.intro @Tryz.results91 (And.intro @Tryz.results92 (And.intro @Tryz.results93 (And.intro @Tryz.results94 (And.intro @Tryz.results95 (And.intro @Tryz.results96 (And.intro @Tryz.results97 (And.intro @Tryz.results98 (And.intro @Tryz.results99 (And.intro @Tryz.results100 (@Tryz.results101)))))))))))))))))))))))))))))))))))))))))))))))))))))))))))))))))))))))))))))))))))))))))))))))))))) := And.intro @Tryz.underlying173 (And.intro @Tryz.results2 (And.intro @Tryz.results3 (And.intro @Tryz.results4 (And.intro @Tryz.results5 (And.intro @Tryz.results6 (And.intro @Tryz.results7 (And.intro @Tryz.results8 (And.intro @Tryz.results9 (And.intro @Tryz.results10 (And.intro @Tryz.results11 (And.intro @Tryz.results12 (And.intro @Tryz.results13 (And.intro @Tryz.results14 (And.intro @Tryz.results15 (And.intro @Tryz.results16 (And.intro @Tryz.results17 (And.intro @Tryz.results18 (And.intro @Tryz.results19 (And.intro @Tryz.results20 (And.intro @Tryz.results21 (And.intro @Tryz.results22 (And.intro @Tryz.results23 (And.intro @Tryz.results24 (And.intro @Tryz.results25 (And.intro @Tryz.results26 (And.intro @Tryz.results27 (And.intro @Tryz.results28 (And.intro @Tryz.results29 (And.intro @Tryz.results30 (And.intro @Tryz.results31 (And.intro @Tryz.results32 (And.intro @Tryz.results33 (And.intro @Tryz.results34 (And.intro @Tryz.results35 (And.intro @Tryz.results36 (And.intro @Tryz.results37 (And.intro @Tryz.results38 (And.intro @Tryz.results39 (And.intro @Tryz.results40 (And.intro @Tryz.results41 (And.intro @Tryz.results42 (And.intro @Tryz.results43 (And.intro @Tryz.results44 (And.intro @Tryz.results45 (And.intro @Tryz.results46 (And.intro @Tryz.results47 (And.intro @Tryz.results48 (And.intro @Tryz.results49 (And.intro @Tryz.results50 (And.intro @Tryz.results51 (And.intro @Tryz.results52 (And.intro @Tryz.results53 (And.intro @Tryz.results54 (And.intro @Tryz.results55 (And.intro @Tryz.results56 (And.intro @Tryz.results57 (And.intro @Tryz.results58 (And.intro @Tryz.results59 (And.intro @Tryz.results60 (And.intro @Tryz.results61 (And.intro @Tryz.results62 (And.intro @Tryz.results63 (And.intro @Tryz.results64 (And.intro @Tryz.results65 (And.intro @Tryz.results66 (And.intro @Tryz.results67 (And.intro @Tryz.results68 (And.intro @Tryz.results69 (And.intro @Tryz.results70 (And.intro @Tryz.results71 (And.intro @Tryz.results72 (And.intro @Tryz.results73 (And.intro @Tryz.results74 (And.intro @Tryz.results75 (And.intro @Tryz.results76 (And.intro @Tryz.results77 (And.intro @Tryz.results78 (And.intro @Tryz.results79 (And.intro @Tryz.results80 (And.intro @Tryz.results81 (And.intro @Tryz.results82 (And.intro @Tryz.results83 (And.intro @Tryz.results84 (And.intro @Tryz.results85 (And.intro @Tryz.results86 (And.intro @Tryz.results87 (And.intro @Tryz.results88 (And.intro @Tryz.results89 (And.intro @Tryz.results91 (And.intro @Tryz.results92 (And.intro @Tryz.results93 (And.intro @Tryz.results94 (And.intro @Tryz.results95 (And.intro @Tryz.results96 (And.intro @Tryz.results97 (And.intro @Tryz.results98 (And.intro @Tryz.results99 (And.intro @Tryz.results100 (@Tryz.results101)))))))))))))))))))))))))))))))))))))))))))))))))))))))))))))))))))))))))))))))))))))))))))))))))))
theorem tyS7 : type_of% (And.intro @Tryz.results103 (And.intro @Tryz.results104 (@Tryz.results126))) := And.intro @Tryz.results103 (And.intro @Tryz.results104 (@Tryz.results126))
theorem tyS : type_of% (And.intro @tyS0 (And.intro @tyS1 (And.intro @tyS2 (And.intro @tyS3 (And.intro @tyS4 (And.intro @tyS5 (And.intro @tyS6 (@tyS7)))))))) := And.intro @tyS0 (And.intro @tyS1 (And.intro @tyS2 (And.intro @tyS3 (And.intro @tyS4 (And.intro @tyS5 (And.intro @tyS6 (@tyS7)))))))
end Go.Proofs.YtiholbpchhifiaaGreatDoor
