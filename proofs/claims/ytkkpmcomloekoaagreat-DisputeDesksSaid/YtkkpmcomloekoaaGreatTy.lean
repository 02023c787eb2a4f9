/-
Closed facts on the types and functions of this translation.
Conditions: none.
-/
import Derived.Test.YtkkpmcomloekoaaGreatProg
import Derived.Test.YtkkpmcomloekoaaGreatVmEq
import Derived.KernelRfl
namespace Go.Proofs.YtkkpmcomloekoaaGreat
open Go.Vm
set_option maxRecDepth 100000
theorem shp2 : shp Tryz.prog 2 = some (false, 1) := by kernel_rfl
theorem zro2 : zro Tryz.prog 2 = some (.int .i64 0) := by kernel_rfl
theorem shp3 : shp Tryz.prog 3 = some (false, 1) := by kernel_rfl
theorem zro3 : zro Tryz.prog 3 = some (.int .i64 0) := by kernel_rfl
theorem shp4 : shp Tryz.prog 4 = some (false, 1) := by kernel_rfl
theorem zro4 : zro Tryz.prog 4 = some (.bool false) := by kernel_rfl
theorem shp5 : shp Tryz.prog 5 = some (false, 1) := by kernel_rfl
theorem zro5 : zro Tryz.prog 5 = some (.int .u8 0) := by kernel_rfl
theorem shp6 : shp Tryz.prog 6 = some (false, 1) := by kernel_rfl
theorem zro6 : zro Tryz.prog 6 = some (.int .u8 0) := by kernel_rfl
theorem shp7 : shp Tryz.prog 7 = some (true, 4) := by kernel_rfl
theorem fld7n0 : fld Tryz.prog 7 0 = some (0, false, 1) := by kernel_rfl
theorem fld7n1 : fld Tryz.prog 7 1 = some (1, false, 1) := by kernel_rfl
theorem fld7n2 : fld Tryz.prog 7 2 = some (2, false, 1) := by kernel_rfl
theorem fld7n3 : fld Tryz.prog 7 3 = some (3, false, 1) := by kernel_rfl
theorem bok7 : bldOk Tryz.prog 7 = true := by kernel_rfl
theorem zro7 : zro Tryz.prog 7 = some (.agg #[.int .i64 0, .int .i64 0, .bool false, .int .u8 0]) := by kernel_rfl
theorem shp8 : shp Tryz.prog 8 = some (true, 4) := by kernel_rfl
theorem fld8n0 : fld Tryz.prog 8 0 = some (0, false, 1) := by kernel_rfl
theorem fld8n1 : fld Tryz.prog 8 1 = some (1, false, 1) := by kernel_rfl
theorem fld8n2 : fld Tryz.prog 8 2 = some (2, false, 1) := by kernel_rfl
theorem fld8n3 : fld Tryz.prog 8 3 = some (3, false, 1) := by kernel_rfl
theorem bok8 : bldOk Tryz.prog 8 = true := by kernel_rfl
theorem zro8 : zro Tryz.prog 8 = some (.agg #[.int .i64 0, .int .i64 0, .bool false, .int .u8 0]) := by kernel_rfl
theorem shp9 : shp Tryz.prog 9 = some (false, 1) := by kernel_rfl
theorem zro9 : zro Tryz.prog 9 = some (.string ⟨#[]⟩) := by kernel_rfl
theorem shp10 : shp Tryz.prog 10 = some (false, 1) := by kernel_rfl
theorem zro10 : zro Tryz.prog 10 = some (.string ⟨#[]⟩) := by kernel_rfl
theorem shp11 : shp Tryz.prog 11 = some (false, 1) := by kernel_rfl
theorem zro11 : zro Tryz.prog 11 = some (.string ⟨#[]⟩) := by kernel_rfl
theorem shp12 : shp Tryz.prog 12 = some (false, 1) := by kernel_rfl
theorem zro12 : zro Tryz.prog 12 = some (.int .u64 0) := by kernel_rfl
theorem shp13 : shp Tryz.prog 13 = some (true, 2) := by kernel_rfl
theorem fld13n0 : fld Tryz.prog 13 0 = some (0, false, 1) := by kernel_rfl
theorem fld13n1 : fld Tryz.prog 13 1 = some (1, false, 1) := by kernel_rfl
theorem bok13 : bldOk Tryz.prog 13 = true := by kernel_rfl
theorem zro13 : zro Tryz.prog 13 = some (.agg #[.string ⟨#[]⟩, .int .u64 0]) := by kernel_rfl
theorem shp14 : shp Tryz.prog 14 = some (true, 2) := by kernel_rfl
theorem fld14n0 : fld Tryz.prog 14 0 = some (0, false, 1) := by kernel_rfl
theorem fld14n1 : fld Tryz.prog 14 1 = some (1, false, 1) := by kernel_rfl
theorem bok14 : bldOk Tryz.prog 14 = true := by kernel_rfl
theorem zro14 : zro Tryz.prog 14 = some (.agg #[.string ⟨#[]⟩, .int .u64 0]) := by kernel_rfl
theorem shp15 : shp Tryz.prog 15 = some (false, 1) := by kernel_rfl
theorem zro15 : zro Tryz.prog 15 = some (.pointer none) := by kernel_rfl
theorem shp16 : shp Tryz.prog 16 = some (false, 1) := by kernel_rfl
theorem zro16 : zro Tryz.prog 16 = some (.pointer none) := by kernel_rfl
theorem shp17 : shp Tryz.prog 17 = some (false, 1) := by kernel_rfl
theorem zro17 : zro Tryz.prog 17 = some (.pointer none) := by kernel_rfl
theorem shp18 : shp Tryz.prog 18 = some (true, 1) := by kernel_rfl
theorem fld18n0 : fld Tryz.prog 18 0 = some (0, false, 1) := by kernel_rfl
theorem bok18 : bldOk Tryz.prog 18 = true := by kernel_rfl
theorem zro18 : zro Tryz.prog 18 = some (.agg #[.pointer none]) := by kernel_rfl
theorem shp19 : shp Tryz.prog 19 = some (true, 1) := by kernel_rfl
theorem fld19n0 : fld Tryz.prog 19 0 = some (0, false, 1) := by kernel_rfl
theorem bok19 : bldOk Tryz.prog 19 = true := by kernel_rfl
theorem zro19 : zro Tryz.prog 19 = some (.agg #[.pointer none]) := by kernel_rfl
theorem shp20 : shp Tryz.prog 20 = some (false, 1) := by kernel_rfl
theorem zro20 : zro Tryz.prog 20 = some (.nilIface) := by kernel_rfl
theorem shp21 : shp Tryz.prog 21 = some (false, 1) := by kernel_rfl
theorem zro21 : zro Tryz.prog 21 = some (.int .i32 0) := by kernel_rfl
theorem shp22 : shp Tryz.prog 22 = some (false, 1) := by kernel_rfl
theorem zro22 : zro Tryz.prog 22 = some (.slice none 0 0) := by kernel_rfl
theorem slc22 : slc Tryz.prog 22 = some (58, 7, 96) := by kernel_rfl
theorem shp23 : shp Tryz.prog 23 = some (false, 1) := by kernel_rfl
theorem zro23 : zro Tryz.prog 23 = some (.slice none 0 0) := by kernel_rfl
theorem slc23 : slc Tryz.prog 23 = some (39, 19, 240) := by kernel_rfl
theorem shp26 : shp Tryz.prog 26 = some (false, 1) := by kernel_rfl
theorem zro26 : zro Tryz.prog 26 = some (.pointer none) := by kernel_rfl
theorem shp27 : shp Tryz.prog 27 = some (false, 1) := by kernel_rfl
theorem zro27 : zro Tryz.prog 27 = some (.int .i64 0) := by kernel_rfl
theorem shp30 : shp Tryz.prog 30 = some (false, 1) := by kernel_rfl
theorem zro30 : zro Tryz.prog 30 = some (.pointer none) := by kernel_rfl
theorem shp33 : shp Tryz.prog 33 = some (true, 2) := by kernel_rfl
theorem fld33n0 : fld Tryz.prog 33 0 = some (0, false, 1) := by kernel_rfl
theorem fld33n1 : fld Tryz.prog 33 1 = some (1, false, 1) := by kernel_rfl
theorem bok33 : bldOk Tryz.prog 33 = true := by kernel_rfl
theorem sih33 : Tryz.prog.stoodInHeld 33 = false := by kernel_rfl
theorem egt33 : Tryz.prog.eqGuardType Tryz.prog.depth 33 = false := by kernel_rfl
theorem zro33 : zro Tryz.prog 33 = some (.agg #[.int .i64 0, .string ⟨#[]⟩]) := by kernel_rfl
theorem shp34 : shp Tryz.prog 34 = some (true, 2) := by kernel_rfl
theorem fld34n0 : fld Tryz.prog 34 0 = some (0, false, 1) := by kernel_rfl
theorem fld34n1 : fld Tryz.prog 34 1 = some (1, false, 1) := by kernel_rfl
theorem bok34 : bldOk Tryz.prog 34 = true := by kernel_rfl
theorem sih34 : Tryz.prog.stoodInHeld 34 = false := by kernel_rfl
theorem egt34 : Tryz.prog.eqGuardType Tryz.prog.depth 34 = false := by kernel_rfl
theorem zro34 : zro Tryz.prog 34 = some (.agg #[.int .i64 0, .string ⟨#[]⟩]) := by kernel_rfl
theorem shp35 : shp Tryz.prog 35 = some (true, 12) := by kernel_rfl
theorem fld35n0 : fld Tryz.prog 35 0 = some (0, false, 1) := by kernel_rfl
theorem fld35n1 : fld Tryz.prog 35 1 = some (1, false, 1) := by kernel_rfl
theorem fld35n2 : fld Tryz.prog 35 2 = some (2, false, 1) := by kernel_rfl
theorem fld35n3 : fld Tryz.prog 35 3 = some (3, false, 1) := by kernel_rfl
theorem fld35n4 : fld Tryz.prog 35 4 = some (4, false, 1) := by kernel_rfl
theorem fld35n5 : fld Tryz.prog 35 5 = some (5, false, 1) := by kernel_rfl
theorem fld35n6 : fld Tryz.prog 35 6 = some (6, false, 1) := by kernel_rfl
theorem fld35n7 : fld Tryz.prog 35 7 = some (7, true, 2) := by kernel_rfl
theorem fld35n8 : fld Tryz.prog 35 8 = some (9, false, 1) := by kernel_rfl
theorem fld35n9 : fld Tryz.prog 35 9 = some (10, false, 1) := by kernel_rfl
theorem fld35n10 : fld Tryz.prog 35 10 = some (11, false, 1) := by kernel_rfl
theorem bok35 : bldOk Tryz.prog 35 = true := by kernel_rfl
theorem sih35 : Tryz.prog.stoodInHeld 35 = false := by kernel_rfl
theorem egt35 : Tryz.prog.eqGuardType Tryz.prog.depth 35 = false := by kernel_rfl
theorem zro35 : zro Tryz.prog 35 = some (.agg #[.int .i64 0, .string ⟨#[]⟩, .string ⟨#[]⟩, .string ⟨#[]⟩, .string ⟨#[]⟩, .string ⟨#[]⟩, .string ⟨#[]⟩, .int .i64 0, .string ⟨#[]⟩, .int .i64 0, .int .i64 0, .bool false]) := by kernel_rfl
theorem shp36 : shp Tryz.prog 36 = some (true, 12) := by kernel_rfl
theorem fld36n0 : fld Tryz.prog 36 0 = some (0, false, 1) := by kernel_rfl
theorem fld36n1 : fld Tryz.prog 36 1 = some (1, false, 1) := by kernel_rfl
theorem fld36n2 : fld Tryz.prog 36 2 = some (2, false, 1) := by kernel_rfl
theorem fld36n3 : fld Tryz.prog 36 3 = some (3, false, 1) := by kernel_rfl
theorem fld36n4 : fld Tryz.prog 36 4 = some (4, false, 1) := by kernel_rfl
theorem fld36n5 : fld Tryz.prog 36 5 = some (5, false, 1) := by kernel_rfl
theorem fld36n6 : fld Tryz.prog 36 6 = some (6, false, 1) := by kernel_rfl
theorem fld36n7 : fld Tryz.prog 36 7 = some (7, true, 2) := by kernel_rfl
theorem fld36n8 : fld Tryz.prog 36 8 = some (9, false, 1) := by kernel_rfl
theorem fld36n9 : fld Tryz.prog 36 9 = some (10, false, 1) := by kernel_rfl
theorem fld36n10 : fld Tryz.prog 36 10 = some (11, false, 1) := by kernel_rfl
theorem bok36 : bldOk Tryz.prog 36 = true := by kernel_rfl
theorem sih36 : Tryz.prog.stoodInHeld 36 = false := by kernel_rfl
theorem egt36 : Tryz.prog.eqGuardType Tryz.prog.depth 36 = false := by kernel_rfl
theorem zro36 : zro Tryz.prog 36 = some (.agg #[.int .i64 0, .string ⟨#[]⟩, .string ⟨#[]⟩, .string ⟨#[]⟩, .string ⟨#[]⟩, .string ⟨#[]⟩, .string ⟨#[]⟩, .int .i64 0, .string ⟨#[]⟩, .int .i64 0, .int .i64 0, .bool false]) := by kernel_rfl
theorem shp37 : shp Tryz.prog 37 = some (false, 1) := by kernel_rfl
theorem zro37 : zro Tryz.prog 37 = some (.slice none 0 0) := by kernel_rfl
theorem slc37 : slc Tryz.prog 37 = some (94, 3, 32) := by kernel_rfl
theorem shp38 : shp Tryz.prog 38 = some (true, 19) := by kernel_rfl
theorem fld38n0 : fld Tryz.prog 38 0 = some (0, false, 1) := by kernel_rfl
theorem fld38n1 : fld Tryz.prog 38 1 = some (1, false, 1) := by kernel_rfl
theorem fld38n2 : fld Tryz.prog 38 2 = some (2, false, 1) := by kernel_rfl
theorem fld38n3 : fld Tryz.prog 38 3 = some (3, true, 12) := by kernel_rfl
theorem fld38n4 : fld Tryz.prog 38 4 = some (15, false, 1) := by kernel_rfl
theorem fld38n5 : fld Tryz.prog 38 5 = some (16, false, 1) := by kernel_rfl
theorem fld38n6 : fld Tryz.prog 38 6 = some (17, false, 1) := by kernel_rfl
theorem fld38n7 : fld Tryz.prog 38 7 = some (18, false, 1) := by kernel_rfl
theorem bok38 : bldOk Tryz.prog 38 = true := by kernel_rfl
theorem sih38 : Tryz.prog.stoodInHeld 38 = false := by kernel_rfl
theorem egt38 : Tryz.prog.eqGuardType Tryz.prog.depth 38 = false := by kernel_rfl
theorem zro38 : zro Tryz.prog 38 = some (.agg #[.int .u8 0, .string ⟨#[]⟩, .string ⟨#[]⟩, .int .i64 0, .string ⟨#[]⟩, .string ⟨#[]⟩, .string ⟨#[]⟩, .string ⟨#[]⟩, .string ⟨#[]⟩, .string ⟨#[]⟩, .int .i64 0, .string ⟨#[]⟩, .int .i64 0, .int .i64 0, .bool false, .int .i64 0, .int .i64 0, .int .i64 0, .slice none 0 0]) := by kernel_rfl
theorem shp39 : shp Tryz.prog 39 = some (true, 19) := by kernel_rfl
theorem fld39n0 : fld Tryz.prog 39 0 = some (0, false, 1) := by kernel_rfl
theorem fld39n1 : fld Tryz.prog 39 1 = some (1, false, 1) := by kernel_rfl
theorem fld39n2 : fld Tryz.prog 39 2 = some (2, false, 1) := by kernel_rfl
theorem fld39n3 : fld Tryz.prog 39 3 = some (3, true, 12) := by kernel_rfl
theorem fld39n4 : fld Tryz.prog 39 4 = some (15, false, 1) := by kernel_rfl
theorem fld39n5 : fld Tryz.prog 39 5 = some (16, false, 1) := by kernel_rfl
theorem fld39n6 : fld Tryz.prog 39 6 = some (17, false, 1) := by kernel_rfl
theorem fld39n7 : fld Tryz.prog 39 7 = some (18, false, 1) := by kernel_rfl
theorem bok39 : bldOk Tryz.prog 39 = true := by kernel_rfl
theorem sih39 : Tryz.prog.stoodInHeld 39 = false := by kernel_rfl
theorem egt39 : Tryz.prog.eqGuardType Tryz.prog.depth 39 = false := by kernel_rfl
theorem zro39 : zro Tryz.prog 39 = some (.agg #[.int .u8 0, .string ⟨#[]⟩, .string ⟨#[]⟩, .int .i64 0, .string ⟨#[]⟩, .string ⟨#[]⟩, .string ⟨#[]⟩, .string ⟨#[]⟩, .string ⟨#[]⟩, .string ⟨#[]⟩, .int .i64 0, .string ⟨#[]⟩, .int .i64 0, .int .i64 0, .bool false, .int .i64 0, .int .i64 0, .int .i64 0, .slice none 0 0]) := by kernel_rfl
theorem shp41 : shp Tryz.prog 41 = some (false, 1) := by kernel_rfl
theorem zro41 : zro Tryz.prog 41 = some (.slice none 0 0) := by kernel_rfl
theorem slc41 : slc Tryz.prog 41 = some (9, 1, 16) := by kernel_rfl
theorem shp46 : shp Tryz.prog 46 = some (true, 10) := by kernel_rfl
theorem fld46n0 : fld Tryz.prog 46 0 = some (0, false, 1) := by kernel_rfl
theorem fld46n1 : fld Tryz.prog 46 1 = some (1, false, 1) := by kernel_rfl
theorem fld46n2 : fld Tryz.prog 46 2 = some (2, false, 1) := by kernel_rfl
theorem fld46n3 : fld Tryz.prog 46 3 = some (3, false, 1) := by kernel_rfl
theorem fld46n4 : fld Tryz.prog 46 4 = some (4, false, 1) := by kernel_rfl
theorem fld46n5 : fld Tryz.prog 46 5 = some (5, true, 2) := by kernel_rfl
theorem fld46n6 : fld Tryz.prog 46 6 = some (7, false, 1) := by kernel_rfl
theorem fld46n7 : fld Tryz.prog 46 7 = some (8, false, 1) := by kernel_rfl
theorem fld46n8 : fld Tryz.prog 46 8 = some (9, false, 1) := by kernel_rfl
theorem bok46 : bldOk Tryz.prog 46 = true := by kernel_rfl
theorem sih46 : Tryz.prog.stoodInHeld 46 = false := by kernel_rfl
theorem egt46 : Tryz.prog.eqGuardType Tryz.prog.depth 46 = false := by kernel_rfl
theorem zro46 : zro Tryz.prog 46 = some (.agg #[.string ⟨#[]⟩, .string ⟨#[]⟩, .string ⟨#[]⟩, .string ⟨#[]⟩, .string ⟨#[]⟩, .int .i64 0, .string ⟨#[]⟩, .int .i64 0, .int .i64 0, .int .i64 0]) := by kernel_rfl
theorem shp47 : shp Tryz.prog 47 = some (true, 10) := by kernel_rfl
theorem fld47n0 : fld Tryz.prog 47 0 = some (0, false, 1) := by kernel_rfl
theorem fld47n1 : fld Tryz.prog 47 1 = some (1, false, 1) := by kernel_rfl
theorem fld47n2 : fld Tryz.prog 47 2 = some (2, false, 1) := by kernel_rfl
theorem fld47n3 : fld Tryz.prog 47 3 = some (3, false, 1) := by kernel_rfl
theorem fld47n4 : fld Tryz.prog 47 4 = some (4, false, 1) := by kernel_rfl
theorem fld47n5 : fld Tryz.prog 47 5 = some (5, true, 2) := by kernel_rfl
theorem fld47n6 : fld Tryz.prog 47 6 = some (7, false, 1) := by kernel_rfl
theorem fld47n7 : fld Tryz.prog 47 7 = some (8, false, 1) := by kernel_rfl
theorem fld47n8 : fld Tryz.prog 47 8 = some (9, false, 1) := by kernel_rfl
theorem bok47 : bldOk Tryz.prog 47 = true := by kernel_rfl
theorem sih47 : Tryz.prog.stoodInHeld 47 = false := by kernel_rfl
theorem egt47 : Tryz.prog.eqGuardType Tryz.prog.depth 47 = false := by kernel_rfl
theorem zro47 : zro Tryz.prog 47 = some (.agg #[.string ⟨#[]⟩, .string ⟨#[]⟩, .string ⟨#[]⟩, .string ⟨#[]⟩, .string ⟨#[]⟩, .int .i64 0, .string ⟨#[]⟩, .int .i64 0, .int .i64 0, .int .i64 0]) := by kernel_rfl
theorem shp51 : shp Tryz.prog 51 = some (false, 1) := by kernel_rfl
theorem zro51 : zro Tryz.prog 51 = some (.slice none 0 0) := by kernel_rfl
theorem slc51 : slc Tryz.prog 51 = some (3, 1, 8) := by kernel_rfl
theorem shp55 : shp Tryz.prog 55 = some (false, 1) := by kernel_rfl
theorem zro55 : zro Tryz.prog 55 = some (.slice none 0 0) := by kernel_rfl
theorem slc55 : slc Tryz.prog 55 = some (47, 10, 128) := by kernel_rfl
theorem shp57 : shp Tryz.prog 57 = some (true, 7) := by kernel_rfl
theorem fld57n0 : fld Tryz.prog 57 0 = some (0, false, 1) := by kernel_rfl
theorem fld57n1 : fld Tryz.prog 57 1 = some (1, false, 1) := by kernel_rfl
theorem fld57n2 : fld Tryz.prog 57 2 = some (2, false, 1) := by kernel_rfl
theorem fld57n3 : fld Tryz.prog 57 3 = some (3, false, 1) := by kernel_rfl
theorem fld57n4 : fld Tryz.prog 57 4 = some (4, false, 1) := by kernel_rfl
theorem fld57n5 : fld Tryz.prog 57 5 = some (5, false, 1) := by kernel_rfl
theorem fld57n6 : fld Tryz.prog 57 6 = some (6, false, 1) := by kernel_rfl
theorem bok57 : bldOk Tryz.prog 57 = true := by kernel_rfl
theorem sih57 : Tryz.prog.stoodInHeld 57 = false := by kernel_rfl
theorem egt57 : Tryz.prog.eqGuardType Tryz.prog.depth 57 = false := by kernel_rfl
theorem zro57 : zro Tryz.prog 57 = some (.agg #[.string ⟨#[]⟩, .int .i64 0, .int .i64 0, .int .i64 0, .int .i64 0, .slice none 0 0, .slice none 0 0]) := by kernel_rfl
theorem shp58 : shp Tryz.prog 58 = some (true, 7) := by kernel_rfl
theorem fld58n0 : fld Tryz.prog 58 0 = some (0, false, 1) := by kernel_rfl
theorem fld58n1 : fld Tryz.prog 58 1 = some (1, false, 1) := by kernel_rfl
theorem fld58n2 : fld Tryz.prog 58 2 = some (2, false, 1) := by kernel_rfl
theorem fld58n3 : fld Tryz.prog 58 3 = some (3, false, 1) := by kernel_rfl
theorem fld58n4 : fld Tryz.prog 58 4 = some (4, false, 1) := by kernel_rfl
theorem fld58n5 : fld Tryz.prog 58 5 = some (5, false, 1) := by kernel_rfl
theorem fld58n6 : fld Tryz.prog 58 6 = some (6, false, 1) := by kernel_rfl
theorem bok58 : bldOk Tryz.prog 58 = true := by kernel_rfl
theorem sih58 : Tryz.prog.stoodInHeld 58 = false := by kernel_rfl
theorem egt58 : Tryz.prog.eqGuardType Tryz.prog.depth 58 = false := by kernel_rfl
theorem zro58 : zro Tryz.prog 58 = some (.agg #[.string ⟨#[]⟩, .int .i64 0, .int .i64 0, .int .i64 0, .int .i64 0, .slice none 0 0, .slice none 0 0]) := by kernel_rfl
theorem shp64 : shp Tryz.prog 64 = some (false, 1) := by kernel_rfl
theorem zro64 : zro Tryz.prog 64 = some (.map none) := by kernel_rfl
theorem shp65 : shp Tryz.prog 65 = some (false, 1) := by kernel_rfl
theorem zro65 : zro Tryz.prog 65 = some (.slice none 0 0) := by kernel_rfl
theorem slc65 : slc Tryz.prog 65 = some (74, 12, 160) := by kernel_rfl
theorem shp66 : shp Tryz.prog 66 = some (true, 3) := by kernel_rfl
theorem fld66n0 : fld Tryz.prog 66 0 = some (0, false, 1) := by kernel_rfl
theorem fld66n1 : fld Tryz.prog 66 1 = some (1, false, 1) := by kernel_rfl
theorem fld66n2 : fld Tryz.prog 66 2 = some (2, false, 1) := by kernel_rfl
theorem bok66 : bldOk Tryz.prog 66 = true := by kernel_rfl
theorem sih66 : Tryz.prog.stoodInHeld 66 = false := by kernel_rfl
theorem egt66 : Tryz.prog.eqGuardType Tryz.prog.depth 66 = false := by kernel_rfl
theorem zro66 : zro Tryz.prog 66 = some (.agg #[.slice none 0 0, .slice none 0 0, .map none]) := by kernel_rfl
theorem shp67 : shp Tryz.prog 67 = some (true, 3) := by kernel_rfl
theorem fld67n0 : fld Tryz.prog 67 0 = some (0, false, 1) := by kernel_rfl
theorem fld67n1 : fld Tryz.prog 67 1 = some (1, false, 1) := by kernel_rfl
theorem fld67n2 : fld Tryz.prog 67 2 = some (2, false, 1) := by kernel_rfl
theorem bok67 : bldOk Tryz.prog 67 = true := by kernel_rfl
theorem sih67 : Tryz.prog.stoodInHeld 67 = false := by kernel_rfl
theorem egt67 : Tryz.prog.eqGuardType Tryz.prog.depth 67 = false := by kernel_rfl
theorem zro67 : zro Tryz.prog 67 = some (.agg #[.slice none 0 0, .slice none 0 0, .map none]) := by kernel_rfl
theorem shp69 : shp Tryz.prog 69 = some (false, 1) := by kernel_rfl
theorem zro69 : zro Tryz.prog 69 = some (.slice none 0 0) := by kernel_rfl
theorem slc69 : slc Tryz.prog 69 = some (78, 12, 160) := by kernel_rfl
theorem shp70 : shp Tryz.prog 70 = some (true, 2) := by kernel_rfl
theorem fld70n0 : fld Tryz.prog 70 0 = some (0, false, 1) := by kernel_rfl
theorem fld70n1 : fld Tryz.prog 70 1 = some (1, false, 1) := by kernel_rfl
theorem bok70 : bldOk Tryz.prog 70 = true := by kernel_rfl
theorem sih70 : Tryz.prog.stoodInHeld 70 = false := by kernel_rfl
theorem egt70 : Tryz.prog.eqGuardType Tryz.prog.depth 70 = false := by kernel_rfl
theorem zro70 : zro Tryz.prog 70 = some (.agg #[.slice none 0 0, .slice none 0 0]) := by kernel_rfl
theorem shp71 : shp Tryz.prog 71 = some (true, 2) := by kernel_rfl
theorem fld71n0 : fld Tryz.prog 71 0 = some (0, false, 1) := by kernel_rfl
theorem fld71n1 : fld Tryz.prog 71 1 = some (1, false, 1) := by kernel_rfl
theorem bok71 : bldOk Tryz.prog 71 = true := by kernel_rfl
theorem sih71 : Tryz.prog.stoodInHeld 71 = false := by kernel_rfl
theorem egt71 : Tryz.prog.eqGuardType Tryz.prog.depth 71 = false := by kernel_rfl
theorem zro71 : zro Tryz.prog 71 = some (.agg #[.slice none 0 0, .slice none 0 0]) := by kernel_rfl
theorem shp72 : shp Tryz.prog 72 = some (false, 1) := by kernel_rfl
theorem zro72 : zro Tryz.prog 72 = some (.pointer none) := by kernel_rfl
theorem shp73 : shp Tryz.prog 73 = some (true, 12) := by kernel_rfl
theorem fld73n0 : fld Tryz.prog 73 0 = some (0, true, 10) := by kernel_rfl
theorem fld73n1 : fld Tryz.prog 73 1 = some (10, false, 1) := by kernel_rfl
theorem fld73n2 : fld Tryz.prog 73 2 = some (11, false, 1) := by kernel_rfl
theorem bok73 : bldOk Tryz.prog 73 = true := by kernel_rfl
theorem sih73 : Tryz.prog.stoodInHeld 73 = false := by kernel_rfl
theorem egt73 : Tryz.prog.eqGuardType Tryz.prog.depth 73 = false := by kernel_rfl
theorem zro73 : zro Tryz.prog 73 = some (.agg #[.string ⟨#[]⟩, .string ⟨#[]⟩, .string ⟨#[]⟩, .string ⟨#[]⟩, .string ⟨#[]⟩, .int .i64 0, .string ⟨#[]⟩, .int .i64 0, .int .i64 0, .int .i64 0, .slice none 0 0, .int .i64 0]) := by kernel_rfl
theorem shp74 : shp Tryz.prog 74 = some (true, 12) := by kernel_rfl
theorem fld74n0 : fld Tryz.prog 74 0 = some (0, true, 10) := by kernel_rfl
theorem fld74n1 : fld Tryz.prog 74 1 = some (10, false, 1) := by kernel_rfl
theorem fld74n2 : fld Tryz.prog 74 2 = some (11, false, 1) := by kernel_rfl
theorem bok74 : bldOk Tryz.prog 74 = true := by kernel_rfl
theorem sih74 : Tryz.prog.stoodInHeld 74 = false := by kernel_rfl
theorem egt74 : Tryz.prog.eqGuardType Tryz.prog.depth 74 = false := by kernel_rfl
theorem zro74 : zro Tryz.prog 74 = some (.agg #[.string ⟨#[]⟩, .string ⟨#[]⟩, .string ⟨#[]⟩, .string ⟨#[]⟩, .string ⟨#[]⟩, .int .i64 0, .string ⟨#[]⟩, .int .i64 0, .int .i64 0, .int .i64 0, .slice none 0 0, .int .i64 0]) := by kernel_rfl
theorem shp77 : shp Tryz.prog 77 = some (true, 12) := by kernel_rfl
theorem fld77n0 : fld Tryz.prog 77 0 = some (0, true, 10) := by kernel_rfl
theorem fld77n1 : fld Tryz.prog 77 1 = some (10, false, 1) := by kernel_rfl
theorem fld77n2 : fld Tryz.prog 77 2 = some (11, false, 1) := by kernel_rfl
theorem bok77 : bldOk Tryz.prog 77 = true := by kernel_rfl
theorem sih77 : Tryz.prog.stoodInHeld 77 = false := by kernel_rfl
theorem egt77 : Tryz.prog.eqGuardType Tryz.prog.depth 77 = false := by kernel_rfl
theorem zro77 : zro Tryz.prog 77 = some (.agg #[.string ⟨#[]⟩, .string ⟨#[]⟩, .string ⟨#[]⟩, .string ⟨#[]⟩, .string ⟨#[]⟩, .int .i64 0, .string ⟨#[]⟩, .int .i64 0, .int .i64 0, .int .i64 0, .slice none 0 0, .int .i64 0]) := by kernel_rfl
theorem shp78 : shp Tryz.prog 78 = some (true, 12) := by kernel_rfl
theorem fld78n0 : fld Tryz.prog 78 0 = some (0, true, 10) := by kernel_rfl
theorem fld78n1 : fld Tryz.prog 78 1 = some (10, false, 1) := by kernel_rfl
theorem fld78n2 : fld Tryz.prog 78 2 = some (11, false, 1) := by kernel_rfl
theorem bok78 : bldOk Tryz.prog 78 = true := by kernel_rfl
theorem sih78 : Tryz.prog.stoodInHeld 78 = false := by kernel_rfl
theorem egt78 : Tryz.prog.eqGuardType Tryz.prog.depth 78 = false := by kernel_rfl
theorem zro78 : zro Tryz.prog 78 = some (.agg #[.string ⟨#[]⟩, .string ⟨#[]⟩, .string ⟨#[]⟩, .string ⟨#[]⟩, .string ⟨#[]⟩, .int .i64 0, .string ⟨#[]⟩, .int .i64 0, .int .i64 0, .int .i64 0, .slice none 0 0, .int .i64 0]) := by kernel_rfl
theorem shp92 : shp Tryz.prog 92 = some (false, 1) := by kernel_rfl
theorem zro92 : zro Tryz.prog 92 = some (.int .u64 0) := by kernel_rfl
theorem shp93 : shp Tryz.prog 93 = some (true, 3) := by kernel_rfl
theorem fld93n0 : fld Tryz.prog 93 0 = some (0, false, 1) := by kernel_rfl
theorem fld93n1 : fld Tryz.prog 93 1 = some (1, false, 1) := by kernel_rfl
theorem fld93n2 : fld Tryz.prog 93 2 = some (2, false, 1) := by kernel_rfl
theorem bok93 : bldOk Tryz.prog 93 = true := by kernel_rfl
theorem sih93 : Tryz.prog.stoodInHeld 93 = false := by kernel_rfl
theorem egt93 : Tryz.prog.eqGuardType Tryz.prog.depth 93 = false := by kernel_rfl
theorem zro93 : zro Tryz.prog 93 = some (.agg #[.string ⟨#[]⟩, .int .i64 0, .int .u64 0]) := by kernel_rfl
theorem shp94 : shp Tryz.prog 94 = some (true, 3) := by kernel_rfl
theorem fld94n0 : fld Tryz.prog 94 0 = some (0, false, 1) := by kernel_rfl
theorem fld94n1 : fld Tryz.prog 94 1 = some (1, false, 1) := by kernel_rfl
theorem fld94n2 : fld Tryz.prog 94 2 = some (2, false, 1) := by kernel_rfl
theorem bok94 : bldOk Tryz.prog 94 = true := by kernel_rfl
theorem sih94 : Tryz.prog.stoodInHeld 94 = false := by kernel_rfl
theorem egt94 : Tryz.prog.eqGuardType Tryz.prog.depth 94 = false := by kernel_rfl
theorem zro94 : zro Tryz.prog 94 = some (.agg #[.string ⟨#[]⟩, .int .i64 0, .int .u64 0]) := by kernel_rfl
theorem shp101 : shp Tryz.prog 101 = some (false, 1) := by kernel_rfl
theorem zro101 : zro Tryz.prog 101 = some (.map none) := by kernel_rfl
theorem shp111 : shp Tryz.prog 111 = some (true, 12) := by kernel_rfl
theorem fld111n0 : fld Tryz.prog 111 0 = some (0, false, 1) := by kernel_rfl
theorem fld111n1 : fld Tryz.prog 111 1 = some (1, false, 1) := by kernel_rfl
theorem fld111n2 : fld Tryz.prog 111 2 = some (2, false, 1) := by kernel_rfl
theorem fld111n3 : fld Tryz.prog 111 3 = some (3, false, 1) := by kernel_rfl
theorem fld111n4 : fld Tryz.prog 111 4 = some (4, false, 1) := by kernel_rfl
theorem fld111n5 : fld Tryz.prog 111 5 = some (5, false, 1) := by kernel_rfl
theorem fld111n6 : fld Tryz.prog 111 6 = some (6, false, 1) := by kernel_rfl
theorem fld111n7 : fld Tryz.prog 111 7 = some (7, true, 2) := by kernel_rfl
theorem fld111n8 : fld Tryz.prog 111 8 = some (9, false, 1) := by kernel_rfl
theorem fld111n9 : fld Tryz.prog 111 9 = some (10, false, 1) := by kernel_rfl
theorem fld111n10 : fld Tryz.prog 111 10 = some (11, false, 1) := by kernel_rfl
theorem bok111 : bldOk Tryz.prog 111 = true := by kernel_rfl
theorem sih111 : Tryz.prog.stoodInHeld 111 = false := by kernel_rfl
theorem egt111 : Tryz.prog.eqGuardType Tryz.prog.depth 111 = false := by kernel_rfl
theorem zro111 : zro Tryz.prog 111 = some (.agg #[.int .i64 0, .string ⟨#[]⟩, .string ⟨#[]⟩, .string ⟨#[]⟩, .string ⟨#[]⟩, .string ⟨#[]⟩, .string ⟨#[]⟩, .int .i64 0, .string ⟨#[]⟩, .int .i64 0, .int .i64 0, .bool false]) := by kernel_rfl
theorem shp112 : shp Tryz.prog 112 = some (false, 1) := by kernel_rfl
theorem zro112 : zro Tryz.prog 112 = some (.slice none 0 0) := by kernel_rfl
theorem slc112 : slc Tryz.prog 112 = some (109, 1, 8) := by kernel_rfl
theorem shp118 : shp Tryz.prog 118 = some (false, 1) := by kernel_rfl
theorem zro118 : zro Tryz.prog 118 = some (.int .u64 0) := by kernel_rfl
theorem shp121 : shp Tryz.prog 121 = some (true, 4) := by kernel_rfl
theorem fld121n0 : fld Tryz.prog 121 0 = some (0, false, 1) := by kernel_rfl
theorem fld121n1 : fld Tryz.prog 121 1 = some (1, false, 1) := by kernel_rfl
theorem fld121n2 : fld Tryz.prog 121 2 = some (2, false, 1) := by kernel_rfl
theorem fld121n3 : fld Tryz.prog 121 3 = some (3, false, 1) := by kernel_rfl
theorem bok121 : bldOk Tryz.prog 121 = true := by kernel_rfl
theorem zro121 : zro Tryz.prog 121 = some (.agg #[.pointer none, .pointer none, .pointer none, .string ⟨#[]⟩]) := by kernel_rfl
theorem shp122 : shp Tryz.prog 122 = some (true, 4) := by kernel_rfl
theorem fld122n0 : fld Tryz.prog 122 0 = some (0, false, 1) := by kernel_rfl
theorem fld122n1 : fld Tryz.prog 122 1 = some (1, false, 1) := by kernel_rfl
theorem fld122n2 : fld Tryz.prog 122 2 = some (2, false, 1) := by kernel_rfl
theorem fld122n3 : fld Tryz.prog 122 3 = some (3, false, 1) := by kernel_rfl
theorem bok122 : bldOk Tryz.prog 122 = true := by kernel_rfl
theorem zro122 : zro Tryz.prog 122 = some (.agg #[.pointer none, .pointer none, .pointer none, .string ⟨#[]⟩]) := by kernel_rfl
theorem shp123 : shp Tryz.prog 123 = some (true, 0) := by kernel_rfl
theorem bok123 : bldOk Tryz.prog 123 = false := by kernel_rfl
theorem zro123 : zro Tryz.prog 123 = some (.agg #[]) := by kernel_rfl
theorem shp124 : shp Tryz.prog 124 = some (true, 0) := by kernel_rfl
theorem fld124n0 : fld Tryz.prog 124 0 = some (0, true, 0) := by kernel_rfl
theorem bok124 : bldOk Tryz.prog 124 = true := by kernel_rfl
theorem zro124 : zro Tryz.prog 124 = some (.agg #[]) := by kernel_rfl
theorem shp125 : shp Tryz.prog 125 = some (true, 0) := by kernel_rfl
theorem fld125n0 : fld Tryz.prog 125 0 = some (0, true, 0) := by kernel_rfl
theorem bok125 : bldOk Tryz.prog 125 = true := by kernel_rfl
theorem zro125 : zro Tryz.prog 125 = some (.agg #[]) := by kernel_rfl
theorem shp127 : shp Tryz.prog 127 = some (false, 1) := by kernel_rfl
theorem zro127 : zro Tryz.prog 127 = some (.int .u32 0) := by kernel_rfl
theorem shp128 : shp Tryz.prog 128 = some (false, 1) := by kernel_rfl
theorem zro128 : zro Tryz.prog 128 = some (.int .u8 0) := by kernel_rfl
theorem shp129 : shp Tryz.prog 129 = some (false, 1) := by kernel_rfl
theorem zro129 : zro Tryz.prog 129 = some (.int .u8 0) := by kernel_rfl
theorem shp131 : shp Tryz.prog 131 = some (false, 1) := by kernel_rfl
theorem zro131 : zro Tryz.prog 131 = some (.pointer none) := by kernel_rfl
theorem shp132 : shp Tryz.prog 132 = some (false, 1) := by kernel_rfl
theorem zro132 : zro Tryz.prog 132 = some (.int .i32 0) := by kernel_rfl
theorem shp133 : shp Tryz.prog 133 = some (false, 1) := by kernel_rfl
theorem zro133 : zro Tryz.prog 133 = some (.int .i32 0) := by kernel_rfl
theorem shp134 : shp Tryz.prog 134 = some (true, 11) := by kernel_rfl
theorem fld134n0 : fld Tryz.prog 134 0 = some (0, false, 1) := by kernel_rfl
theorem fld134n1 : fld Tryz.prog 134 1 = some (1, false, 1) := by kernel_rfl
theorem fld134n2 : fld Tryz.prog 134 2 = some (2, false, 1) := by kernel_rfl
theorem fld134n3 : fld Tryz.prog 134 3 = some (3, false, 1) := by kernel_rfl
theorem fld134n4 : fld Tryz.prog 134 4 = some (4, false, 1) := by kernel_rfl
theorem fld134n5 : fld Tryz.prog 134 5 = some (5, false, 1) := by kernel_rfl
theorem fld134n6 : fld Tryz.prog 134 6 = some (6, false, 1) := by kernel_rfl
theorem fld134n7 : fld Tryz.prog 134 7 = some (7, false, 1) := by kernel_rfl
theorem fld134n8 : fld Tryz.prog 134 8 = some (8, false, 1) := by kernel_rfl
theorem fld134n9 : fld Tryz.prog 134 9 = some (9, false, 1) := by kernel_rfl
theorem fld134n10 : fld Tryz.prog 134 10 = some (10, false, 1) := by kernel_rfl
theorem bok134 : bldOk Tryz.prog 134 = true := by kernel_rfl
theorem zro134 : zro Tryz.prog 134 = some (.agg #[.int .u64 0, .int .u64 0, .int .u32 0, .int .u8 0, .int .u8 0, .int .u8 0, .int .u8 0, .nilFunc, .pointer none, .int .i32 0, .int .i32 0]) := by kernel_rfl
theorem shp135 : shp Tryz.prog 135 = some (true, 11) := by kernel_rfl
theorem fld135n0 : fld Tryz.prog 135 0 = some (0, false, 1) := by kernel_rfl
theorem fld135n1 : fld Tryz.prog 135 1 = some (1, false, 1) := by kernel_rfl
theorem fld135n2 : fld Tryz.prog 135 2 = some (2, false, 1) := by kernel_rfl
theorem fld135n3 : fld Tryz.prog 135 3 = some (3, false, 1) := by kernel_rfl
theorem fld135n4 : fld Tryz.prog 135 4 = some (4, false, 1) := by kernel_rfl
theorem fld135n5 : fld Tryz.prog 135 5 = some (5, false, 1) := by kernel_rfl
theorem fld135n6 : fld Tryz.prog 135 6 = some (6, false, 1) := by kernel_rfl
theorem fld135n7 : fld Tryz.prog 135 7 = some (7, false, 1) := by kernel_rfl
theorem fld135n8 : fld Tryz.prog 135 8 = some (8, false, 1) := by kernel_rfl
theorem fld135n9 : fld Tryz.prog 135 9 = some (9, false, 1) := by kernel_rfl
theorem fld135n10 : fld Tryz.prog 135 10 = some (10, false, 1) := by kernel_rfl
theorem bok135 : bldOk Tryz.prog 135 = true := by kernel_rfl
theorem zro135 : zro Tryz.prog 135 = some (.agg #[.int .u64 0, .int .u64 0, .int .u32 0, .int .u8 0, .int .u8 0, .int .u8 0, .int .u8 0, .nilFunc, .pointer none, .int .i32 0, .int .i32 0]) := by kernel_rfl
theorem shp136 : shp Tryz.prog 136 = some (false, 1) := by kernel_rfl
theorem zro136 : zro Tryz.prog 136 = some (.pointer none) := by kernel_rfl
theorem cal2 : callable Tryz.prog 2 = true := by kernel_rfl
theorem cal3 : callable Tryz.prog 3 = true := by kernel_rfl
theorem cal4 : callable Tryz.prog 4 = true := by kernel_rfl
theorem cal5 : callable Tryz.prog 5 = true := by kernel_rfl
theorem cal6 : callable Tryz.prog 6 = true := by kernel_rfl
theorem cal7 : callable Tryz.prog 7 = true := by kernel_rfl
theorem cal8 : callable Tryz.prog 8 = true := by kernel_rfl
theorem cal9 : callable Tryz.prog 9 = true := by kernel_rfl
theorem cal10 : callable Tryz.prog 10 = true := by kernel_rfl
theorem cal11 : callable Tryz.prog 11 = true := by kernel_rfl
theorem cal12 : callable Tryz.prog 12 = true := by kernel_rfl
theorem cal13 : callable Tryz.prog 13 = true := by kernel_rfl
theorem cal14 : callable Tryz.prog 14 = true := by kernel_rfl
theorem cal15 : callable Tryz.prog 15 = true := by kernel_rfl
theorem cal16 : callable Tryz.prog 16 = true := by kernel_rfl
theorem cal17 : callable Tryz.prog 17 = true := by kernel_rfl
theorem cal18 : callable Tryz.prog 18 = true := by kernel_rfl
theorem cal19 : callable Tryz.prog 19 = true := by kernel_rfl
theorem cal20 : callable Tryz.prog 20 = true := by kernel_rfl
theorem cal21 : callable Tryz.prog 21 = true := by kernel_rfl
theorem cal22 : callable Tryz.prog 22 = true := by kernel_rfl
theorem cal23 : callable Tryz.prog 23 = true := by kernel_rfl
theorem cal24 : callable Tryz.prog 24 = true := by kernel_rfl
theorem cal25 : callable Tryz.prog 25 = true := by kernel_rfl
theorem cal26 : callable Tryz.prog 26 = true := by kernel_rfl
theorem cal27 : callable Tryz.prog 27 = true := by kernel_rfl
theorem cal28 : callable Tryz.prog 28 = true := by kernel_rfl
theorem cal29 : callable Tryz.prog 29 = true := by kernel_rfl
theorem cal30 : callable Tryz.prog 30 = true := by kernel_rfl
theorem cal31 : callable Tryz.prog 31 = true := by kernel_rfl
theorem cal32 : callable Tryz.prog 32 = true := by kernel_rfl
theorem cal33 : callable Tryz.prog 33 = true := by kernel_rfl
theorem cal34 : callable Tryz.prog 34 = true := by kernel_rfl
theorem cal35 : callable Tryz.prog 35 = true := by kernel_rfl
theorem cal36 : callable Tryz.prog 36 = true := by kernel_rfl
theorem cal37 : callable Tryz.prog 37 = true := by kernel_rfl
theorem cal38 : callable Tryz.prog 38 = true := by kernel_rfl
theorem cal39 : callable Tryz.prog 39 = true := by kernel_rfl
theorem cal40 : callable Tryz.prog 40 = true := by kernel_rfl
theorem cal41 : callable Tryz.prog 41 = true := by kernel_rfl
theorem cal42 : callable Tryz.prog 42 = true := by kernel_rfl
theorem cal43 : callable Tryz.prog 43 = true := by kernel_rfl
theorem cal44 : callable Tryz.prog 44 = true := by kernel_rfl
theorem cal45 : callable Tryz.prog 45 = true := by kernel_rfl
theorem cal46 : callable Tryz.prog 46 = true := by kernel_rfl
theorem cal47 : callable Tryz.prog 47 = true := by kernel_rfl
theorem cal48 : callable Tryz.prog 48 = true := by kernel_rfl
theorem cal49 : callable Tryz.prog 49 = true := by kernel_rfl
theorem cal50 : callable Tryz.prog 50 = true := by kernel_rfl
theorem cal51 : callable Tryz.prog 51 = true := by kernel_rfl
theorem cal52 : callable Tryz.prog 52 = true := by kernel_rfl
theorem cal53 : callable Tryz.prog 53 = true := by kernel_rfl
theorem cal54 : callable Tryz.prog 54 = true := by kernel_rfl
theorem cal55 : callable Tryz.prog 55 = true := by kernel_rfl
theorem cal56 : callable Tryz.prog 56 = true := by kernel_rfl
theorem cal57 : callable Tryz.prog 57 = true := by kernel_rfl
theorem cal58 : callable Tryz.prog 58 = true := by kernel_rfl
theorem cal59 : callable Tryz.prog 59 = true := by kernel_rfl
theorem cal60 : callable Tryz.prog 60 = true := by kernel_rfl
theorem cal61 : callable Tryz.prog 61 = true := by kernel_rfl
theorem cal62 : callable Tryz.prog 62 = true := by kernel_rfl
theorem cal63 : callable Tryz.prog 63 = true := by kernel_rfl
theorem cal64 : callable Tryz.prog 64 = true := by kernel_rfl
theorem cal65 : callable Tryz.prog 65 = true := by kernel_rfl
theorem cal66 : callable Tryz.prog 66 = true := by kernel_rfl
theorem cal67 : callable Tryz.prog 67 = true := by kernel_rfl
theorem cal68 : callable Tryz.prog 68 = true := by kernel_rfl
theorem cal69 : callable Tryz.prog 69 = true := by kernel_rfl
theorem cal70 : callable Tryz.prog 70 = true := by kernel_rfl
theorem cal71 : callable Tryz.prog 71 = true := by kernel_rfl
theorem cal72 : callable Tryz.prog 72 = true := by kernel_rfl
theorem cal73 : callable Tryz.prog 73 = true := by kernel_rfl
theorem cal74 : callable Tryz.prog 74 = true := by kernel_rfl
theorem cal75 : callable Tryz.prog 75 = true := by kernel_rfl
theorem cal76 : callable Tryz.prog 76 = true := by kernel_rfl
theorem cal77 : callable Tryz.prog 77 = true := by kernel_rfl
theorem cal78 : callable Tryz.prog 78 = true := by kernel_rfl
theorem cal79 : callable Tryz.prog 79 = true := by kernel_rfl
theorem cal80 : callable Tryz.prog 80 = true := by kernel_rfl
theorem cal81 : callable Tryz.prog 81 = true := by kernel_rfl
theorem cal82 : callable Tryz.prog 82 = true := by kernel_rfl
theorem cal83 : callable Tryz.prog 83 = true := by kernel_rfl
theorem cal84 : callable Tryz.prog 84 = true := by kernel_rfl
theorem cal85 : callable Tryz.prog 85 = true := by kernel_rfl
theorem cal86 : callable Tryz.prog 86 = true := by kernel_rfl
theorem cal87 : callable Tryz.prog 87 = true := by kernel_rfl
theorem cal88 : callable Tryz.prog 88 = true := by kernel_rfl
theorem cal89 : callable Tryz.prog 89 = true := by kernel_rfl
theorem cal90 : callable Tryz.prog 90 = true := by kernel_rfl
theorem cal91 : callable Tryz.prog 91 = true := by kernel_rfl
theorem cal92 : callable Tryz.prog 92 = true := by kernel_rfl
theorem cal93 : callable Tryz.prog 93 = true := by kernel_rfl
theorem cal94 : callable Tryz.prog 94 = true := by kernel_rfl
theorem cal95 : callable Tryz.prog 95 = true := by kernel_rfl
theorem cal96 : callable Tryz.prog 96 = true := by kernel_rfl
theorem cal97 : callable Tryz.prog 97 = true := by kernel_rfl
theorem cal98 : callable Tryz.prog 98 = true := by kernel_rfl
theorem cal99 : callable Tryz.prog 99 = true := by kernel_rfl
theorem cal100 : callable Tryz.prog 100 = true := by kernel_rfl
theorem cal102 : callable Tryz.prog 102 = true := by kernel_rfl
theorem cal103 : callable Tryz.prog 103 = true := by kernel_rfl
theorem cal0 : callable Tryz.prog 0 = false := by kernel_rfl
theorem cal1 : callable Tryz.prog 1 = false := by kernel_rfl
theorem cal101 : callable Tryz.prog 101 = false := by kernel_rfl
theorem cal104 : callable Tryz.prog 104 = false := by kernel_rfl
theorem cal105 : callable Tryz.prog 105 = false := by kernel_rfl
theorem cal106 : callable Tryz.prog 106 = false := by kernel_rfl
theorem cal107 : callable Tryz.prog 107 = false := by kernel_rfl
theorem cal108 : callable Tryz.prog 108 = false := by kernel_rfl
theorem cal109 : callable Tryz.prog 109 = false := by kernel_rfl
theorem cal110 : callable Tryz.prog 110 = false := by kernel_rfl
theorem cal111 : callable Tryz.prog 111 = false := by kernel_rfl
theorem cal112 : callable Tryz.prog 112 = false := by kernel_rfl
theorem cal113 : callable Tryz.prog 113 = false := by kernel_rfl
theorem cal114 : callable Tryz.prog 114 = false := by kernel_rfl
theorem cal115 : callable Tryz.prog 115 = false := by kernel_rfl
theorem cal116 : callable Tryz.prog 116 = false := by kernel_rfl
theorem cal117 : callable Tryz.prog 117 = false := by kernel_rfl
theorem cal118 : callable Tryz.prog 118 = false := by kernel_rfl
theorem cal119 : callable Tryz.prog 119 = false := by kernel_rfl
theorem cal120 : callable Tryz.prog 120 = false := by kernel_rfl
theorem tyS0 : type_of% (And.intro @shp2 (And.intro @zro2 (And.intro @shp3 (And.intro @zro3 (And.intro @shp4 (And.intro @zro4 (And.intro @shp5 (And.intro @zro5 (And.intro @shp6 (And.intro @zro6 (And.intro @shp7 (And.intro @fld7n0 (And.intro @fld7n1 (And.intro @fld7n2 (And.intro @fld7n3 (And.intro @bok7 (And.intro @zro7 (And.intro @shp8 (And.intro @fld8n0 (And.intro @fld8n1 (And.intro @fld8n2 (And.intro @fld8n3 (And.intro @bok8 (And.intro @zro8 (And.intro @shp9 (And.intro @zro9 (And.intro @shp10 (And.intro @zro10 (And.intro @shp11 (And.intro @zro11 (And.intro @shp12 (And.intro @zro12 (And.intro @shp13 (And.intro @fld13n0 (And.intro @fld13n1 (And.intro @bok13 (And.intro @zro13 (And.intro @shp14 (And.intro @fld14n0 (And.intro @fld14n1 (And.intro @bok14 (And.intro @zro14 (And.intro @shp15 (And.intro @zro15 (And.intro @shp16 (And.intro @zro16 (And.intro @shp17 (And.intro @zro17 (And.intro @shp18 (And.intro @fld18n0 (And.intro @bok18 (And.intro @zro18 (And.intro @shp19 (And.intro @fld19n0 (And.intro @bok19 (And.intro @zro19 (And.intro @shp20 (And.intro @zro20 (And.intro @shp21 (And.intro @zro21 (And.intro @shp22 (And.intro @zro22 (And.intro @slc22 (And.intro @shp23 (And.intro @zro23 (And.intro @slc23 (And.intro @shp26 (And.intro @zro26 (And.intro @shp27 (And.intro @zro27 (And.intro @shp30 (And.intro @zro30 (And.intro @shp33 (And.intro @fld33n0 (And.intro @fld33n1 (And.intro @bok33 (And.intro @sih33 (And.intro @egt33 (And.intro @zro33 (And.intro @shp34 (And.intro @fld34n0 (And.intro @fld34n1 (And.intro @bok34 (And.intro @sih34 (And.intro @egt34 (And.intro @zro34 (And.intro @shp35 (And.intro @fld35n0 (And.intro @fld35n1 (And.intro @fld35n2 (And.intro @fld35n3 (And.intro @fld35n4 (And.intro @fld35n5 (And.intro @fld35n6 (And.intro @fld35n7 (And.intro @fld35n8 (And.intro @fld35n9 (And.intro @fld35n10 (And.intro @bok35 (@sih35)))))))))))))))))))))))))))))))))))))))))))))))))))))))))))))))))))))))))))))))))))))))))))))))))))) := And.intro @shp2 (And.intro @zro2 (And.intro @shp3 (And.intro @zro3 (And.intro @shp4 (And.intro @zro4 (And.intro @shp5 (And.intro @zro5 (And.intro @shp6 (And.intro @zro6 (And.intro @shp7 (And.intro @fld7n0 (And.intro @fld7n1 (And.intro @fld7n2 (And.intro @fld7n3 (And.intro @bok7 (And.intro @zro7 (And.intro @shp8 (And.intro @fld8n0 (And.intro @fld8n1 (And.intro @fld8n2 (And.intro @fld8n3 (And.intro @bok8 (And.intro @zro8 (And.intro @shp9 (And.intro @zro9 (And.intro @shp10 (And.intro @zro10 (And.intro @shp11 (And.intro @zro11 (And.intro @shp12 (And.intro @zro12 (And.intro @shp13 (And.intro @fld13n0 (And.intro @fld13n1 (And.intro @bok13 (And.intro @zro13 (And.intro @shp14 (And.intro @fld14n0 (And.intro @fld14n1 (And.intro @bok14 (And.intro @zro14 (And.intro @shp15 (And.intro @zro15 (And.intro @shp16 (And.intro @zro16 (And.intro @shp17 (And.intro @zro17 (And.intro @shp18 (And.intro @fld18n0 (And.intro @bok18 (And.intro @zro18 (And.intro @shp19 (And.intro @fld19n0 (And.intro @bok19 (And.intro @zro19 (And.intro @shp20 (And.intro @zro20 (And.intro @shp21 (And.intro @zro21 (And.intro @shp22 (And.intro @zro22 (And.intro @slc22 (And.intro @shp23 (And.intro @zro23 (And.intro @slc23 (And.intro @shp26 (And.intro @zro26 (And.intro @shp27 (And.intro @zro27 (And.intro @shp30 (And.intro @zro30 (And.intro @shp33 (And.intro @fld33n0 (And.intro @fld33n1 (And.intro @bok33 (And.intro @sih33 (And.intro @egt33 (And.intro @zro33 (And.intro @shp34 (And.intro @fld34n0 (And.intro @fld34n1 (And.intro @bok34 (And.intro @sih34 (And.intro @egt34 (And.intro @zro34 (And.intro @shp35 (And.intro @fld35n0 (And.intro @fld35n1 (And.intro @fld35n2 (And.intro @fld35n3 (And.intro @fld35n4 (And.intro @fld35n5 (And.intro @fld35n6 (And.intro @fld35n7 (And.intro @fld35n8 (And.intro @fld35n9 (And.intro @fld35n10 (And.intro @bok35 (@sih35)))))))))))))))))))))))))))))))))))))))))))))))))))))))))))))))))))))))))))))))))))))))))))))))))))
theorem tyS1 : type_of% (And.intro @egt35 (And.intro @zro35 (And.intro @shp36 (And.intro @fld36n0 (And.intro @fld36n1 (And.intro @fld36n2 (And.intro @fld36n3 (And.intro @fld36n4 (And.intro @fld36n5 (And.intro @fld36n6 (And.intro @fld36n7 (And.intro @fld36n8 (And.intro @fld36n9 (And.intro @fld36n10 (And.intro @bok36 (And.intro @sih36 (And.intro @egt36 (And.intro @zro36 (And.intro @shp37 (And.intro @zro37 (And.intro @slc37 (And.intro @shp38 (And.intro @fld38n0 (And.intro @fld38n1 (And.intro @fld38n2 (And.intro @fld38n3 (And.intro @fld38n4 (And.intro @fld38n5 (And.intro @fld38n6 (And.intro @fld38n7 (And.intro @bok38 (And.intro @sih38 (And.intro @egt38 (And.intro @zro38 (And.intro @shp39 (And.intro @fld39n0 (And.intro @fld39n1 (And.intro @fld39n2 (And.intro @fld39n3 (And.intro @fld39n4 (And.intro @fld39n5 (And.intro @fld39n6 (And.intro @fld39n7 (And.intro @bok39 (And.intro @sih39 (And.intro @egt39 (And.intro @zro39 (And.intro @shp41 (And.intro @zro41 (And.intro @slc41 (And.intro @shp46 (And.intro @fld46n0 (And.intro @fld46n1 (And.intro @fld46n2 (And.intro @fld46n3 (And.intro @fld46n4 (And.intro @fld46n5 (And.intro @fld46n6 (And.intro @fld46n7 (And.intro @fld46n8 (And.intro @bok46 (And.intro @sih46 (And.intro @egt46 (And.intro @zro46 (And.intro @shp47 (And.intro @fld47n0 (And.intro @fld47n1 (And.intro @fld47n2 (And.intro @fld47n3 (And.intro @fld47n4 (And.intro @fld47n5 (And.intro @fld47n6 (And.intro @fld47n7 (And.intro @fld47n8 (And.intro @bok47 (And.intro @sih47 (And.intro @egt47 (And.intro @zro47 (And.intro @shp51 (And.intro @zro51 (And.intro @slc51 (And.intro @shp55 (And.intro @zro55 (And.intro @slc55 (And.intro @shp57 (And.intro @fld57n0 (And.intro @fld57n1 (And.intro @fld57n2 (And.intro @fld57n3 (And.intro @fld57n4 (And.intro @fld57n5 (And.intro @fld57n6 (And.intro @bok57 (And.intro @sih57 (And.intro @egt57 (And.intro @zro57 (And.intro @shp58 (And.intro @fld58n0 (And.intro @fld58n1 (@fld58n2)))))))))))))))))))))))))))))))))))))))))))))))))))))))))))))))))))))))))))))))))))))))))))))))))))) := And.intro @egt35 (And.intro @zro35 (And.intro @shp36 (And.intro @fld36n0 (And.intro @fld36n1 (And.intro @fld36n2 (And.intro @fld36n3 (And.intro @fld36n4 (And.intro @fld36n5 (And.intro @fld36n6 (And.intro @fld36n7 (And.intro @fld36n8 (And.intro @fld36n9 (And.intro @fld36n10 (And.intro @bok36 (And.intro @sih36 (And.intro @egt36 (And.intro @zro36 (And.intro @shp37 (And.intro @zro37 (And.intro @slc37 (And.intro @shp38 (And.intro @fld38n0 (And.intro @fld38n1 (And.intro @fld38n2 (And.intro @fld38n3 (And.intro @fld38n4 (And.intro @fld38n5 (And.intro @fld38n6 (And.intro @fld38n7 (And.intro @bok38 (And.intro @sih38 (And.intro @egt38 (And.intro @zro38 (And.intro @shp39 (And.intro @fld39n0 (And.intro @fld39n1 (And.intro @fld39n2 (And.intro @fld39n3 (And.intro @fld39n4 (And.intro @fld39n5 (And.intro @fld39n6 (And.intro @fld39n7 (And.intro @bok39 (And.intro @sih39 (And.intro @egt39 (And.intro @zro39 (And.intro @shp41 (And.intro @zro41 (And.intro @slc41 (And.intro @shp46 (And.intro @fld46n0 (And.intro @fld46n1 (And.intro @fld46n2 (And.intro @fld46n3 (And.intro @fld46n4 (And.intro @fld46n5 (And.intro @fld46n6 (And.intro @fld46n7 (And.intro @fld46n8 (And.intro @bok46 (And.intro @sih46 (And.intro @egt46 (And.intro @zro46 (And.intro @shp47 (And.intro @fld47n0 (And.intro @fld47n1 (And.intro @fld47n2 (And.intro @fld47n3 (And.intro @fld47n4 (And.intro @fld47n5 (And.intro @fld47n6 (And.intro @fld47n7 (And.intro @fld47n8 (And.intro @bok47 (And.intro @sih47 (And.intro @egt47 (And.intro @zro47 (And.intro @shp51 (And.intro @zro51 (And.intro @slc51 (And.intro @shp55 (And.intro @zro55 (And.intro @slc55 (And.intro @shp57 (And.intro @fld57n0 (And.intro @fld57n1 (And.intro @fld57n2 (And.intro @fld57n3 (And.intro @fld57n4 (And.intro @fld57n5 (And.intro @fld57n6 (And.intro @bok57 (And.intro @sih57 (And.intro @egt57 (And.intro @zro57 (And.intro @shp58 (And.intro @fld58n0 (And.intro @fld58n1 (@fld58n2)))))))))))))))))))))))))))))))))))))))))))))))))))))))))))))))))))))))))))))))))))))))))))))))))))
theorem tyS2 : type_of% (And.intro @fld58n3 (And.intro @fld58n4 (And.intro @fld58n5 (And.intro @fld58n6 (And.intro @bok58 (And.intro @sih58 (And.intro @egt58 (And.intro @zro58 (And.intro @shp64 (And.intro @zro64 (And.intro @shp65 (And.intro @zro65 (And.intro @slc65 (And.intro @shp66 (And.intro @fld66n0 (And.intro @fld66n1 (And.intro @fld66n2 (And.intro @bok66 (And.intro @sih66 (And.intro @egt66 (And.intro @zro66 (And.intro @shp67 (And.intro @fld67n0 (And.intro @fld67n1 (And.intro @fld67n2 (And.intro @bok67 (And.intro @sih67 (And.intro @egt67 (And.intro @zro67 (And.intro @shp69 (And.intro @zro69 (And.intro @slc69 (And.intro @shp70 (And.intro @fld70n0 (And.intro @fld70n1 (And.intro @bok70 (And.intro @sih70 (And.intro @egt70 (And.intro @zro70 (And.intro @shp71 (And.intro @fld71n0 (And.intro @fld71n1 (And.intro @bok71 (And.intro @sih71 (And.intro @egt71 (And.intro @zro71 (And.intro @shp72 (And.intro @zro72 (And.intro @shp73 (And.intro @fld73n0 (And.intro @fld73n1 (And.intro @fld73n2 (And.intro @bok73 (And.intro @sih73 (And.intro @egt73 (And.intro @zro73 (And.intro @shp74 (And.intro @fld74n0 (And.intro @fld74n1 (And.intro @fld74n2 (And.intro @bok74 (And.intro @sih74 (And.intro @egt74 (And.intro @zro74 (And.intro @shp77 (And.intro @fld77n0 (And.intro @fld77n1 (And.intro @fld77n2 (And.intro @bok77 (And.intro @sih77 (And.intro @egt77 (And.intro @zro77 (And.intro @shp78 (And.intro @fld78n0 (And.intro @fld78n1 (And.intro @fld78n2 (And.intro @bok78 (And.intro @sih78 (And.intro @egt78 (And.intro @zro78 (And.intro @shp92 (And.intro @zro92 (And.intro @shp93 (And.intro @fld93n0 (And.intro @fld93n1 (And.intro @fld93n2 (And.intro @bok93 (And.intro @sih93 (And.intro @egt93 (And.intro @zro93 (And.intro @shp94 (And.intro @fld94n0 (And.intro @fld94n1 (And.intro @fld94n2 (And.intro @bok94 (And.intro @sih94 (And.intro @egt94 (And.intro @zro94 (And.intro @shp101 (@zro101)))))))))))))))))))))))))))))))))))))))))))))))))))))))))))))))))))))))))))))))))))))))))))))))))))) := And.intro @fld58n3 (And.intro @fld58n4 (And.intro @fld58n5 (And.intro @fld58n6 (And.intro @bok58 (And.intro @sih58 (And.intro @egt58 (And.intro @zro58 (And.intro @shp64 (And.intro @zro64 (And.intro @shp65 (And.intro @zro65 (And.intro @slc65 (And.intro @shp66 (And.intro @fld66n0 (And.intro @fld66n1 (And.intro @fld66n2 (And.intro @bok66 (And.intro @sih66 (And.intro @egt66 (And.intro @zro66 (And.intro @shp67 (And.intro @fld67n0 (And.intro @fld67n1 (And.intro @fld67n2 (And.intro @bok67 (And.intro @sih67 (And.intro @egt67 (And.intro @zro67 (And.intro @shp69 (And.intro @zro69 (And.intro @slc69 (And.intro @shp70 (And.intro @fld70n0 (And.intro @fld70n1 (And.intro @bok70 (And.intro @sih70 (And.intro @egt70 (And.intro @zro70 (And.intro @shp71 (And.intro @fld71n0 (And.intro @fld71n1 (And.intro @bok71 (And.intro @sih71 (And.intro @egt71 (And.intro @zro71 (And.intro @shp72 (And.intro @zro72 (And.intro @shp73 (And.intro @fld73n0 (And.intro @fld73n1 (And.intro @fld73n2 (And.intro @bok73 (And.intro @sih73 (And.intro @egt73 (And.intro @zro73 (And.intro @shp74 (And.intro @fld74n0 (And.intro @fld74n1 (And.intro @fld74n2 (And.intro @bok74 (And.intro @sih74 (And.intro @egt74 (And.intro @zro74 (And.intro @shp77 (And.intro @fld77n0 (And.intro @fld77n1 (And.intro @fld77n2 (And.intro @bok77 (And.intro @sih77 (And.intro @egt77 (And.intro @zro77 (And.intro @shp78 (And.intro @fld78n0 (And.intro @fld78n1 (And.intro @fld78n2 (And.intro @bok78 (And.intro @sih78 (And.intro @egt78 (And.intro @zro78 (And.intro @shp92 (And.intro @zro92 (And.intro @shp93 (And.intro @fld93n0 (And.intro @fld93n1 (And.intro @fld93n2 (And.intro @bok93 (And.intro @sih93 (And.intro @egt93 (And.intro @zro93 (And.intro @shp94 (And.intro @fld94n0 (And.intro @fld94n1 (And.intro @fld94n2 (And.intro @bok94 (And.intro @sih94 (And.intro @egt94 (And.intro @zro94 (And.intro @shp101 (@zro101)))))))))))))))))))))))))))))))))))))))))))))))))))))))))))))))))))))))))))))))))))))))))))))))))))
theorem tyS3 : type_of% (And.intro @shp111 (And.intro @fld111n0 (And.intro @fld111n1 (And.intro @fld111n2 (And.intro @fld111n3 (And.intro @fld111n4 (And.intro @fld111n5 (And.intro @fld111n6 (And.intro @fld111n7 (And.intro @fld111n8 (And.intro @fld111n9 (And.intro @fld111n10 (And.intro @bok111 (And.intro @sih111 (And.intro @egt111 (And.intro @zro111 (And.intro @shp112 (And.intro @zro112 (And.intro @slc112 (And.intro @shp118 (And.intro @zro118 (And.intro @shp121 (And.intro @fld121n0 (And.intro @fld121n1 (And.intro @fld121n2 (And.intro @fld121n3 (And.intro @bok121 (And.intro @zro121 (And.intro @shp122 (And.intro @fld122n0 (And.intro @fld122n1 (And.intro @fld122n2 (And.intro @fld122n3 (And.intro @bok122 (And.intro @zro122 (And.intro @shp123 (And.intro @bok123 (And.intro @zro123 (And.intro @shp124 (And.intro @fld124n0 (And.intro @bok124 (And.intro @zro124 (And.intro @shp125 (And.intro @fld125n0 (And.intro @bok125 (And.intro @zro125 (And.intro @shp127 (And.intro @zro127 (And.intro @shp128 (And.intro @zro128 (And.intro @shp129 (And.intro @zro129 (And.intro @shp131 (And.intro @zro131 (And.intro @shp132 (And.intro @zro132 (And.intro @shp133 (And.intro @zro133 (And.intro @shp134 (And.intro @fld134n0 (And.intro @fld134n1 (And.intro @fld134n2 (And.intro @fld134n3 (And.intro @fld134n4 (And.intro @fld134n5 (And.intro @fld134n6 (And.intro @fld134n7 (And.intro @fld134n8 (And.intro @fld134n9 (And.intro @fld134n10 (And.intro @bok134 (And.intro @zro134 (And.intro @shp135 (And.intro @fld135n0 (And.intro @fld135n1 (And.intro @fld135n2 (And.intro @fld135n3 (And.intro @fld135n4 (And.intro @fld135n5 (And.intro @fld135n6 (And.intro @fld135n7 (And.intro @fld135n8 (And.intro @fld135n9 (And.intro @fld135n10 (And.intro @bok135 (And.intro @zro135 (And.intro @shp136 (And.intro @zro136 (And.intro @cal2 (And.intro @cal3 (And.intro @cal4 (And.intro @cal5 (And.intro @cal6 (And.intro @cal7 (And.intro @cal8 (And.intro @cal9 (And.intro @cal10 (And.intro @cal11 (And.intro @cal12 (@cal13)))))))))))))))))))))))))))))))))))))))))))))))))))))))))))))))))))))))))))))))))))))))))))))))))))) := And.intro @shp111 (And.intro @fld111n0 (And.intro @fld111n1 (And.intro @fld111n2 (And.intro @fld111n3 (And.intro @fld111n4 (And.intro @fld111n5 (And.intro @fld111n6 (And.intro @fld111n7 (And.intro @fld111n8 (And.intro @fld111n9 (And.intro @fld111n10 (And.intro @bok111 (And.intro @sih111 (And.intro @egt111 (And.intro @zro111 (And.intro @shp112 (And.intro @zro112 (And.intro @slc112 (And.intro @shp118 (And.intro @zro118 (And.intro @shp121 (And.intro @fld121n0 (And.intro @fld121n1 (And.intro @fld121n2 (And.intro @fld121n3 (And.intro @bok121 (And.intro @zro121 (And.intro @shp122 (And.intro @fld122n0 (And.intro @fld122n1 (And.intro @fld122n2 (And.intro @fld122n3 (And.intro @bok122 (And.intro @zro122 (And.intro @shp123 (And.intro @bok123 (And.intro @zro123 (And.intro @shp124 (And.intro @fld124n0 (And.intro @bok124 (And.intro @zro124 (And.intro @shp125 (And.intro @fld125n0 (And.intro @bok125 (And.intro @zro125 (And.intro @shp127 (And.intro @zro127 (And.intro @shp128 (And.intro @zro128 (And.intro @shp129 (And.intro @zro129 (And.intro @shp131 (And.intro @zro131 (And.intro @shp132 (And.intro @zro132 (And.intro @shp133 (And.intro @zro133 (And.intro @shp134 (And.intro @fld134n0 (And.intro @fld134n1 (And.intro @fld134n2 (And.intro @fld134n3 (And.intro @fld134n4 (And.intro @fld134n5 (And.intro @fld134n6 (And.intro @fld134n7 (And.intro @fld134n8 (And.intro @fld134n9 (And.intro @fld134n10 (And.intro @bok134 (And.intro @zro134 (And.intro @shp135 (And.intro @fld135n0 (And.intro @fld135n1 (And.intro @fld135n2 (And.intro @fld135n3 (And.intro @fld135n4 (And.intro @fld135n5 (And.intro @fld135n6 (And.intro @fld135n7 (And.intro @fld135n8 (And.intro @fld135n9 (And.intro @fld135n10 (And.intro @bok135 (And.intro @zro135 (And.intro @shp136 (And.intro @zro136 (And.intro @cal2 (And.intro @cal3 (And.intro @cal4 (And.intro @cal5 (And.intro @cal6 (And.intro @cal7 (And.intro @cal8 (And.intro @cal9 (And.intro @cal10 (And.intro @cal11 (And.intro @cal12 (@cal13)))))))))))))))))))))))))))))))))))))))))))))))))))))))))))))))))))))))))))))))))))))))))))))))))))
theorem tyS4 : type_of% (And.intro @cal14 (And.intro @cal15 (And.intro @cal16 (And.intro @cal17 (And.intro @cal18 (And.intro @cal19 (And.intro @cal20 (And.intro @cal21 (And.intro @cal22 (And.intro @cal23 (And.intro @cal24 (And.intro @cal25 (And.intro @cal26 (And.intro @cal27 (And.intro @cal28 (And.intro @cal29 (And.intro @cal30 (And.intro @cal31 (And.intro @cal32 (And.intro @cal33 (And.intro @cal34 (And.intro @cal35 (And.intro @cal36 (And.intro @cal37 (And.intro @cal38 (And.intro @cal39 (And.intro @cal40 (And.intro @cal41 (And.intro @cal42 (And.intro @cal43 (And.intro @cal44 (And.intro @cal45 (And.intro @cal46 (And.intro @cal47 (And.intro @cal48 (And.intro @cal49 (And.intro @cal50 (And.intro @cal51 (And.intro @cal52 (And.intro @cal53 (And.intro @cal54 (And.intro @cal55 (And.intro @cal56 (And.intro @cal57 (And.intro @cal58 (And.intro @cal59 (And.intro @cal60 (And.intro @cal61 (And.intro @cal62 (And.intro @cal63 (And.intro @cal64 (And.intro @cal65 (And.intro @cal66 (And.intro @cal67 (And.intro @cal68 (And.intro @cal69 (And.intro @cal70 (And.intro @cal71 (And.intro @cal72 (And.intro @cal73 (And.intro @cal74 (And.intro @cal75 (And.intro @cal76 (And.intro @cal77 (And.intro @cal78 (And.intro @cal79 (And.intro @cal80 (And.intro @cal81 (And.intro @cal82 (And.intro @cal83 (And.intro @cal84 (And.intro @cal85 (And.intro @cal86 (And.intro @cal87 (And.intro @cal88 (And.intro @cal89 (And.intro @cal90 (And.intro @cal91 (And.intro @cal92 (And.intro @cal93 (And.intro @cal94 (And.intro @cal95 (And.intro @cal96 (And.intro @cal97 (And.intro @cal98 (And.intro @cal99 (And.intro @cal100 (And.intro @cal102 (And.intro @cal103 (And.intro @cal0 (And.intro @cal1 (And.intro @cal101 (And.intro @cal104 (And.intro @cal105 (And.intro @cal106 (And.intro @cal107 (And.intro @cal108 (And.intro @cal109 (And.intro @cal110 (@cal111)))))))))))))))))))))))))))))))))))))))))))))))))))))))))))))))))))))))))))))))))))))))))))))))))))) := And.intro @cal14 (And.intro @cal15 (And.intro @cal16 (And.intro @cal17 (And.intro @cal18 (And.intro @cal19 (And.intro @cal20 (And.intro @cal21 (And.intro @cal22 (And.intro @cal23 (And.intro @cal24 (And.intro @cal25 (And.intro @cal26 (And.intro @cal27 (And.intro @cal28 (And.intro @cal29 (And.intro @cal30 (And.intro @cal31 (And.intro @cal32 (And.intro @cal33 (And.intro @cal34 (And.intro @cal35 (And.intro @cal36 (And.intro @cal37 (And.intro @cal38 (And.intro @cal39 (And.intro @cal40 (And.intro @cal41 (And.intro @cal42 (And.intro @cal43 (And.intro @cal44 (And.intro @cal45 (And.intro @cal46 (And.intro @cal47 (And.intro @cal48 (And.intro @cal49 (And.intro @cal50 (And.intro @cal51 (And.intro @cal52 (And.intro @cal53 (And.intro @cal54 (And.intro @cal55 (And.intro @cal56 (And.intro @cal57 (And.intro @cal58 (And.intro @cal59 (And.intro @cal60 (And.intro @cal61 (And.intro @cal62 (And.intro @cal63 (And.intro @cal64 (And.intro @cal65 (And.intro @cal66 (And.intro @cal67 (And.intro @cal68 (And.intro @cal69 (And.intro @cal70 (And.intro @cal71 (And.intro @cal72 (And.intro @cal73 (And.intro @cal74 (And.intro @cal75 (And.intro @cal76 (And.intro @cal77 (And.intro @cal78 (And.intro @cal79 (And.intro @cal80 (And.intro @cal81 (And.intro @cal82 (And.intro @cal83 (And.intro @cal84 (And.intro @cal85 (And.intro @cal86 (And.intro @cal87 (And.intro @cal88 (And.intro @cal89 (And.intro @cal90 (And.intro @cal91 (And.intro @cal92 (And.intro @cal93 (And.intro @cal94 (And.intro @cal95 (And.intro @cal96 (And.intro @cal97 (And.intro @cal98 (And.intro @cal99 (And.intro @cal100 (And.intro @cal102 (And.intro @cal103 (And.intro @cal0 (And.intro @cal1 (And.intro @cal101 (And.intro @cal104 (And.intro @cal105 (And.intro @cal106 (And.intro @cal107 (And.intro @cal108 (And.intro @cal109 (And.intro @cal110 (@cal111)))))))))))))))))))))))))))))))))))))))))))))))))))))))))))))))))))))))))))))))))))))))))))))))))))
theorem tyS5 : type_of% (And.intro @cal112 (And.intro @cal113 (And.intro @cal114 (And.intro @cal115 (And.intro @cal116 (And.intro @cal117 (And.intro @cal118 (And.intro @cal119 (And.intro @cal120 (And.intro @Tryz.underlying2 (And.intro @Tryz.underlying3 (And.intro @Tryz.underlying4 (And.intro @Tryz.underlying5 (And.intro @Tryz.underlying6 (And.intro @Tryz.underlying7 (And.intro @Tryz.underlying8 (And.intro @Tryz.underlying9 (And.intro @Tryz.underlying10 (And.intro @Tryz.underlying11 (And.intro @Tryz.underlying12 (And.intro @Tryz.underlying13 (And.intro @Tryz.underlying14 (And.intro @Tryz.underlying15 (And.intro @Tryz.underlying16 (And.intro @Tryz.underlying17 (And.intro @Tryz.underlying18 (And.intro @Tryz.underlying19 (And.intro @Tryz.underlying21 (And.intro @Tryz.underlying22 (And.intro @Tryz.underlying23 (And.intro @Tryz.underlying26 (And.intro @Tryz.underlying27 (And.intro @Tryz.underlying30 (And.intro @Tryz.underlying33 (And.intro @Tryz.underlying34 (And.intro @Tryz.underlying35 (And.intro @Tryz.underlying36 (And.intro @Tryz.underlying37 (And.intro @Tryz.underlying38 (And.intro @Tryz.underlying39 (And.intro @Tryz.underlying41 (And.intro @Tryz.underlying46 (And.intro @Tryz.underlying47 (And.intro @Tryz.underlying51 (And.intro @Tryz.underlying55 (And.intro @Tryz.underlying57 (And.intro @Tryz.underlying58 (And.intro @Tryz.underlying64 (And.intro @Tryz.underlying65 (And.intro @Tryz.underlying66 (And.intro @Tryz.underlying67 (And.intro @Tryz.underlying69 (And.intro @Tryz.underlying70 (And.intro @Tryz.underlying71 (And.intro @Tryz.underlying72 (And.intro @Tryz.underlying73 (And.intro @Tryz.underlying74 (And.intro @Tryz.underlying77 (And.intro @Tryz.underlying78 (And.intro @Tryz.underlying92 (And.intro @Tryz.underlying93 (And.intro @Tryz.underlying94 (And.intro @Tryz.underlying101 (And.intro @Tryz.underlying111 (And.intro @Tryz.underlying112 (And.intro @Tryz.underlying118 (And.intro @Tryz.underlying121 (And.intro @Tryz.underlying122 (And.intro @Tryz.underlying123 (And.intro @Tryz.underlying124 (And.intro @Tryz.underlying125 (And.intro @Tryz.underlying127 (And.intro @Tryz.underlying128 (And.intro @Tryz.underlying129 (And.intro @Tryz.underlying131 (And.intro @Tryz.underlying132 (And.intro @Tryz.underlying133 (And.intro @Tryz.underlying134 (And.intro @Tryz.underlying135 (And.intro @Tryz.underlying136 (And.intro @Tryz.results2 (And.intro @Tryz.results3 (And.intro @Tryz.results4 (And.intro @Tryz.results5 (And.intro @Tryz.results6 (And.intro @Tryz.results7 (And.intro @Tryz.results8 (And.intro @Tryz.results9 (And.intro @Tryz.results10 (And.intro @Tryz.results11 (And.intro @Tryz.results12 (And.intro @Tryz.results13 (And.intro @Tryz.results14 (And.intro @Tryz.results15 (And.intro @Tryz.results16 (And.intro @Tryz.results17 (And.intro @Tryz.results18 (And.intro @Tryz.results19 (And.intro @Tryz.results20 (@Tryz.results21)))))))))))))))))))))))))))))))))))))))))))))))))))))))))))))))))))))))))))))))))))))))))))))))))))) := And.intro @cal112 (And.intro @cal113 (And.intro @cal114 (And.intro @cal115 (And.intro @cal116 (And.intro @cal117 (And.intro @cal118 (And.intro @cal119 (And.intro @cal120 (And.intro @Tryz.underlying2 (And.intro @Tryz.underlying3 (And.intro @Tryz.underlying4 (And.intro @Tryz.underlying5 (And.intro @Tryz.underlying6 (And.intro @Tryz.underlying7 (And.intro @Tryz.underlying8 (And.intro @Tryz.underlying9 (And.intro @Tryz.underlying10 (And.intro @Tryz.underlying11 (And.intro @Tryz.underlying12 (And.intro @Tryz.underlying13 (And.intro @Tryz.underlying14 (And.intro @Tryz.underlying15 (And.intro @Tryz.underlying16 (And.intro @Tryz.underlying17 (And.intro @Tryz.underlying18 (And.intro @Tryz.underlying19 (And.intro @Tryz.underlying21 (And.intro @Tryz.underlying22 (And.intro @Tryz.underlying23 (And.intro @Tryz.underlying26 (And.intro @Tryz.underlying27 (And.intro @Tryz.underlying30 (And.intro @Tryz.underlying33 (And.intro @Tryz.underlying34 (And.intro @Tryz.underlying35 (And.intro @Tryz.underlying36 (And.intro @Tryz.underlying37 (And.intro @Tryz.underlying38 (And.intro @Tryz.underlying39 (And.intro @Tryz.underlying41 (And.intro @Tryz.underlying46 (And.intro @Tryz.underlying47 (And.intro @Tryz.underlying51 (And.intro @Tryz.underlying55 (And.intro @Tryz.underlying57 (And.intro @Tryz.underlying58 (And.intro @Tryz.underlying64 (And.intro @Tryz.underlying65 (And.intro @Tryz.underlying66 (And.intro @Tryz.underlying67 (And.intro @Tryz.underlying69 (And.intro @Tryz.underlying70 (And.intro @Tryz.underlying71 (And.intro @Tryz.underlying72 (And.intro @Tryz.underlying73 (And.intro @Tryz.underlying74 (And.intro @Tryz.underlying77 (And.intro @Tryz.underlying78 (And.intro @Tryz.underlying92 (And.intro @Tryz.underlying93 (And.intro @Tryz.underlying94 (And.intro @Tryz.underlying101 (And.intro @Tryz.underlying111 (And.intro @Tryz.underlying112 (And.intro @Tryz.underlying118 (And.intro @Tryz.underlying121 (And.intro @Tryz.underlying122 (And.intro @Tryz.underlying123 (And.intro @Tryz.underlying124 (And.intro @Tryz.underlying125 (And.intro @Tryz.underlying127 (And.intro @Tryz.underlying128 (And.intro @Tryz.underlying129 (And.intro @Tryz.underlying131 (And.intro @Tryz.underlying132 (And.intro @Tryz.underlying133 (And.intro @Tryz.underlying134 (And.intro @Tryz.underlying135 (And.intro @Tryz.underlying136 (And.intro @Tryz.results2 (And.intro @Tryz.results3 (And.intro @Tryz.results4 (And.intro @Tryz.results5 (And.intro @Tryz.results6 (And.intro @Tryz.results7 (And.intro @Tryz.results8 (And.intro @Tryz.results9 (And.intro @Tryz.results10 (And.intro @Tryz.results11 (And.intro @Tryz.results12 (And.intro @Tryz.results13 (And.intro @Tryz.results14 (And.intro @Tryz.results15 (And.intro @Tryz.results16 (And.intro @Tryz.results17 (And.intro @Tryz.results18 (And.intro @Tryz.results19 (And.intro @Tryz.results20 (@Tryz.results21)))))))))))))))))))))))))))))))))))))))))))))))))))))))))))))))))))))))))))))))))))))))))))))))))))
theorem tyS6 : type_of% (And.intro @Tryz.results22 (And.intro @Tryz.results23 (And.intro @Tryz.results24 (And.intro @Tryz.results25 (And.intro @Tryz.results26 (And.intro @Tryz.results27 (And.intro @Tryz.results28 (And.intro @Tryz.results29 (And.intro @Tryz.results30 (And.intro @Tryz.results31 (And.intro @Tryz.results32 (And.intro @Tryz.results33 (And.intro @Tryz.results34 (And.intro @Tryz.results35 (And.intro @Tryz.results36 (And.intro @Tryz.results37 (And.intro @Tryz.results38 (And.intro @Tryz.results39 (And.intro @Tryz.results40 (And.intro @Tryz.results41 (And.intro @Tryz.results42 (And.intro @Tryz.results43 (And.intro @Tryz.results44 (And.intro @Tryz.results45 (And.intro @Tryz.results46 (And.intro @Tryz.results47 (And.intro @Tryz.results48 (And.intro @Tryz.results49 (And.intro @Tryz.results50 (And.intro @Tryz.results51 (And.intro @Tryz.results52 (And.intro @Tryz.results53 (And.intro @Tryz.results54 (And.intro @Tryz.results55 (And.intro @Tryz.results56 (And.intro @Tryz.results57 (And.intro @Tryz.results58 (And.intro @Tryz.results59 (And.intro @Tryz.results60 (And.intro @Tryz.results61 (And.intro @Tryz.results62 (And.intro @Tryz.results63 (And.intro @Tryz.results64 (And.intro @Tryz.results65 (And.intro @Tryz.results66 (And.intro @Tryz.results67 (And.intro @Tryz.results68 (And.intro @Tryz.results69 (And.intro @Tryz.results70 (And.intro @Tryz.results71 (And.intro @Tryz.results72 (And.intro @Tryz.results73 (And.intro @Tryz.results74 (And.intro @Tryz.results75 (And.intro @Tryz.results76 (And.intro @Tryz.results77 (And.intro @Tryz.results78 (And.intro @Tryz.results79 (And.intro @Tryz.results80 (And.intro @Tryz.results81 (And.intro @Tryz.results82 (And.intro @Tryz.results83 (And.intro @Tryz.results84 (And.intro @Tryz.results85 (And.intro @Tryz.results86 (And.intro @Tryz.results87 (And.intro @Tryz.results88 (And.intro @Tryz.results89 (And.intro @Tryz.results90 (And.intro @Tryz.results91 (And.intro @Tryz.results92 (And.intro @Tryz.results93 (And.intro @Tryz.results94 (And.intro @Tryz.results95 (And.intro @Tryz.results96 (And.intro @Tryz.results97 (And.intro @Tryz.results98 (And.intro @Tryz.results99 (And.intro @Tryz.results100 (And.intro @Tryz.results102 (@Tryz.results103))))))))))))))))))))))))))))))))))))))))))))))))))))))))))))))))))))))))))))))))) := And.intro @Tryz.results22 (And.intro @Tryz.results23 (And.intro @Tryz.results24 (And.intro @Tryz.results25 (And.intro @Tryz.results26 (And.intro @Tryz.results27 (And.intro @Tryz.results28 (And.intro @Tryz.results29 (And.intro @Tryz.results30 (And.intro @Tryz.results31 (And.intro @Tryz.results32 (And.intro @Tryz.results33 (And.intro @Tryz.results34 (And.intro @Tryz.results35 (And.intro @Tryz.results36 (And.intro @Tryz.results37 (And.intro @Tryz.results38 (And.intro @Tryz.results39 (And.intro @Tryz.results40 (And.intro @Tryz.results41 (And.intro @Tryz.results42 (And.intro @Tryz.results43 (And.intro @Tryz.results44 (And.intro @Tryz.results45 (And.intro @Tryz.results46 (And.intro @Tryz.results47 (And.intro @Tryz.results48 (And.intro @Tryz.results49 (And.intro @Tryz.results50 (And.intro @Tryz.results51 (And.intro @Tryz.results52 (And.intro @Tryz.results53 (And.intro @Tryz.results54 (And.intro @Tryz.results55 (And.intro @Tryz.results56 (And.intro @Tryz.results57 (And.intro @Tryz.results58 (And.intro @Tryz.results59 (And.intro @Tryz.results60 (And.intro @Tryz.results61 (And.intro @Tryz.results62 (And.intro @Tryz.results63 (And.intro @Tryz.results64 (And.intro @Tryz.results65 (And.intro @Tryz.results66 (And.intro @Tryz.results67 (And.intro @Tryz.results68 (And.intro @Tryz.results69 (And.intro @Tryz.results70 (And.intro @Tryz.results71 (And.intro @Tryz.results72 (And.intro @Tryz.results73 (And.intro @Tryz.results74 (And.intro @Tryz.results75 (And.intro @Tryz.results76 (And.intro @Tryz.results77 (And.intro @Tryz.results78 (And.intro @Tryz.results79 (And.intro @Tryz.results80 (And.intro @Tryz.results81 (And.intro @Tryz.results82 (And.intro @Tryz.results83 (And.intro @Tryz.results84 (And.intro @Tryz.results85 (And.intro @Tryz.results86 (And.intro @Tryz.results87 (And.intro @Tryz.results88 (And.intro @Tryz.results89 (And.intro @Tryz.results90 (And.intro @Tryz.results91 (And.intro @Tryz.results92 (And.intro @Tryz.results93 (And.intro @Tryz.results94 (And.intro @Tryz.results95 (And.intro @Tryz.results96 (And.intro @Tryz.results97 (And.intro @Tryz.results98 (And.intro @Tryz.results99 (And.intro @Tryz.results100 (And.intro @Tryz.results102 (@Tryz.results103))))))))))))))))))))))))))))))))))))))))))))))))))))))))))))))))))))))))))))))))
theorem tyS : type_of% (And.intro @tyS0 (And.intro @tyS1 (And.intro @tyS2 (And.intro @tyS3 (And.intro @tyS4 (And.intro @tyS5 (@tyS6))))))) := And.intro @tyS0 (And.intro @tyS1 (And.intro @tyS2 (And.intro @tyS3 (And.intro @tyS4 (And.intro @tyS5 (@tyS6))))))
end Go.Proofs.YtkkpmcomloekoaaGreat
