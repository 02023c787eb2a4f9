/-
Closed facts on the types and functions of this translation.
Conditions: none.
-/
import Derived.Test.YtmjkjpjjckcihaaProg
import Derived.Test.YtmjkjpjjckcihaaVmEq
import Derived.KernelRfl
namespace Go.Proofs.Ytmjkjpjjckcihaa
open Go.Vm
set_option maxRecDepth 100000
theorem shp2 : shp Try.prog 2 = some (false, 1) := by kernel_rfl
theorem zro2 : zro Try.prog 2 = some (.int .i64 0) := by kernel_rfl
theorem shp3 : shp Try.prog 3 = some (false, 1) := by kernel_rfl
theorem zro3 : zro Try.prog 3 = some (.int .i64 0) := by kernel_rfl
theorem shp4 : shp Try.prog 4 = some (false, 1) := by kernel_rfl
theorem zro4 : zro Try.prog 4 = some (.bool false) := by kernel_rfl
theorem shp5 : shp Try.prog 5 = some (false, 1) := by kernel_rfl
theorem zro5 : zro Try.prog 5 = some (.int .u8 0) := by kernel_rfl
theorem shp6 : shp Try.prog 6 = some (false, 1) := by kernel_rfl
theorem zro6 : zro Try.prog 6 = some (.int .u8 0) := by kernel_rfl
theorem shp7 : shp Try.prog 7 = some (true, 4) := by kernel_rfl
theorem fld7n0 : fld Try.prog 7 0 = some (0, false, 1) := by kernel_rfl
theorem fld7n1 : fld Try.prog 7 1 = some (1, false, 1) := by kernel_rfl
theorem fld7n2 : fld Try.prog 7 2 = some (2, false, 1) := by kernel_rfl
theorem fld7n3 : fld Try.prog 7 3 = some (3, false, 1) := by kernel_rfl
theorem bok7 : bldOk Try.prog 7 = true := by kernel_rfl
theorem zro7 : zro Try.prog 7 = some (.agg #[.int .i64 0, .int .i64 0, .bool false, .int .u8 0]) := by kernel_rfl
theorem shp8 : shp Try.prog 8 = some (true, 4) := by kernel_rfl
theorem fld8n0 : fld Try.prog 8 0 = some (0, false, 1) := by kernel_rfl
theorem fld8n1 : fld Try.prog 8 1 = some (1, false, 1) := by kernel_rfl
theorem fld8n2 : fld Try.prog 8 2 = some (2, false, 1) := by kernel_rfl
theorem fld8n3 : fld Try.prog 8 3 = some (3, false, 1) := by kernel_rfl
theorem bok8 : bldOk Try.prog 8 = true := by kernel_rfl
theorem zro8 : zro Try.prog 8 = some (.agg #[.int .i64 0, .int .i64 0, .bool false, .int .u8 0]) := by kernel_rfl
theorem shp9 : shp Try.prog 9 = some (false, 1) := by kernel_rfl
theorem zro9 : zro Try.prog 9 = some (.string ⟨#[]⟩) := by kernel_rfl
theorem shp10 : shp Try.prog 10 = some (false, 1) := by kernel_rfl
theorem zro10 : zro Try.prog 10 = some (.string ⟨#[]⟩) := by kernel_rfl
theorem shp11 : shp Try.prog 11 = some (false, 1) := by kernel_rfl
theorem zro11 : zro Try.prog 11 = some (.string ⟨#[]⟩) := by kernel_rfl
theorem shp12 : shp Try.prog 12 = some (false, 1) := by kernel_rfl
theorem zro12 : zro Try.prog 12 = some (.int .u64 0) := by kernel_rfl
theorem shp13 : shp Try.prog 13 = some (true, 2) := by kernel_rfl
theorem fld13n0 : fld Try.prog 13 0 = some (0, false, 1) := by kernel_rfl
theorem fld13n1 : fld Try.prog 13 1 = some (1, false, 1) := by kernel_rfl
theorem bok13 : bldOk Try.prog 13 = true := by kernel_rfl
theorem zro13 : zro Try.prog 13 = some (.agg #[.string ⟨#[]⟩, .int .u64 0]) := by kernel_rfl
theorem shp14 : shp Try.prog 14 = some (true, 2) := by kernel_rfl
theorem fld14n0 : fld Try.prog 14 0 = some (0, false, 1) := by kernel_rfl
theorem fld14n1 : fld Try.prog 14 1 = some (1, false, 1) := by kernel_rfl
theorem bok14 : bldOk Try.prog 14 = true := by kernel_rfl
theorem zro14 : zro Try.prog 14 = some (.agg #[.string ⟨#[]⟩, .int .u64 0]) := by kernel_rfl
theorem shp15 : shp Try.prog 15 = some (false, 1) := by kernel_rfl
theorem zro15 : zro Try.prog 15 = some (.pointer none) := by kernel_rfl
theorem shp16 : shp Try.prog 16 = some (false, 1) := by kernel_rfl
theorem zro16 : zro Try.prog 16 = some (.pointer none) := by kernel_rfl
theorem shp17 : shp Try.prog 17 = some (false, 1) := by kernel_rfl
theorem zro17 : zro Try.prog 17 = some (.pointer none) := by kernel_rfl
theorem shp18 : shp Try.prog 18 = some (true, 1) := by kernel_rfl
theorem fld18n0 : fld Try.prog 18 0 = some (0, false, 1) := by kernel_rfl
theorem bok18 : bldOk Try.prog 18 = true := by kernel_rfl
theorem zro18 : zro Try.prog 18 = some (.agg #[.pointer none]) := by kernel_rfl
theorem shp19 : shp Try.prog 19 = some (true, 1) := by kernel_rfl
theorem fld19n0 : fld Try.prog 19 0 = some (0, false, 1) := by kernel_rfl
theorem bok19 : bldOk Try.prog 19 = true := by kernel_rfl
theorem zro19 : zro Try.prog 19 = some (.agg #[.pointer none]) := by kernel_rfl
theorem shp20 : shp Try.prog 20 = some (false, 1) := by kernel_rfl
theorem zro20 : zro Try.prog 20 = some (.nilIface) := by kernel_rfl
theorem shp21 : shp Try.prog 21 = some (false, 1) := by kernel_rfl
theorem zro21 : zro Try.prog 21 = some (.int .i32 0) := by kernel_rfl
theorem shp22 : shp Try.prog 22 = some (false, 1) := by kernel_rfl
theorem zro22 : zro Try.prog 22 = some (.slice none 0 0) := by kernel_rfl
theorem slc22 : slc Try.prog 22 = some (52, 4, 40) := by kernel_rfl
theorem shp23 : shp Try.prog 23 = some (false, 1) := by kernel_rfl
theorem zro23 : zro Try.prog 23 = some (.slice none 0 0) := by kernel_rfl
theorem slc23 : slc Try.prog 23 = some (36, 6, 72) := by kernel_rfl
theorem shp26 : shp Try.prog 26 = some (false, 1) := by kernel_rfl
theorem zro26 : zro Try.prog 26 = some (.pointer none) := by kernel_rfl
theorem shp27 : shp Try.prog 27 = some (false, 1) := by kernel_rfl
theorem zro27 : zro Try.prog 27 = some (.int .i64 0) := by kernel_rfl
theorem shp30 : shp Try.prog 30 = some (false, 1) := by kernel_rfl
theorem zro30 : zro Try.prog 30 = some (.pointer none) := by kernel_rfl
theorem shp33 : shp Try.prog 33 = some (false, 1) := by kernel_rfl
theorem zro33 : zro Try.prog 33 = some (.slice none 0 0) := by kernel_rfl
theorem slc33 : slc Try.prog 33 = some (76, 4, 40) := by kernel_rfl
theorem shp35 : shp Try.prog 35 = some (true, 6) := by kernel_rfl
theorem fld35n0 : fld Try.prog 35 0 = some (0, false, 1) := by kernel_rfl
theorem fld35n1 : fld Try.prog 35 1 = some (1, false, 1) := by kernel_rfl
theorem fld35n2 : fld Try.prog 35 2 = some (2, false, 1) := by kernel_rfl
theorem fld35n3 : fld Try.prog 35 3 = some (3, false, 1) := by kernel_rfl
theorem fld35n4 : fld Try.prog 35 4 = some (4, false, 1) := by kernel_rfl
theorem fld35n5 : fld Try.prog 35 5 = some (5, false, 1) := by kernel_rfl
theorem bok35 : bldOk Try.prog 35 = true := by kernel_rfl
theorem sih35 : Try.prog.stoodInHeld 35 = false := by kernel_rfl
theorem egt35 : Try.prog.eqGuardType Try.prog.depth 35 = false := by kernel_rfl
theorem zro35 : zro Try.prog 35 = some (.agg #[.int .i64 0, .int .i64 0, .string ⟨#[]⟩, .string ⟨#[]⟩, .string ⟨#[]⟩, .int .i64 0]) := by kernel_rfl
theorem shp36 : shp Try.prog 36 = some (true, 6) := by kernel_rfl
theorem fld36n0 : fld Try.prog 36 0 = some (0, false, 1) := by kernel_rfl
theorem fld36n1 : fld Try.prog 36 1 = some (1, false, 1) := by kernel_rfl
theorem fld36n2 : fld Try.prog 36 2 = some (2, false, 1) := by kernel_rfl
theorem fld36n3 : fld Try.prog 36 3 = some (3, false, 1) := by kernel_rfl
theorem fld36n4 : fld Try.prog 36 4 = some (4, false, 1) := by kernel_rfl
theorem fld36n5 : fld Try.prog 36 5 = some (5, false, 1) := by kernel_rfl
theorem bok36 : bldOk Try.prog 36 = true := by kernel_rfl
theorem sih36 : Try.prog.stoodInHeld 36 = false := by kernel_rfl
theorem egt36 : Try.prog.eqGuardType Try.prog.depth 36 = false := by kernel_rfl
theorem zro36 : zro Try.prog 36 = some (.agg #[.int .i64 0, .int .i64 0, .string ⟨#[]⟩, .string ⟨#[]⟩, .string ⟨#[]⟩, .int .i64 0]) := by kernel_rfl
theorem shp45 : shp Try.prog 45 = some (false, 1) := by kernel_rfl
theorem zro45 : zro Try.prog 45 = some (.slice none 0 0) := by kernel_rfl
theorem slc45 : slc Try.prog 45 = some (64, 5, 64) := by kernel_rfl
theorem shp47 : shp Try.prog 47 = some (false, 1) := by kernel_rfl
theorem zro47 : zro Try.prog 47 = some (.slice none 0 0) := by kernel_rfl
theorem slc47 : slc Try.prog 47 = some (89, 5, 64) := by kernel_rfl
theorem shp49 : shp Try.prog 49 = some (false, 1) := by kernel_rfl
theorem zro49 : zro Try.prog 49 = some (.int .u16 0) := by kernel_rfl
theorem shp50 : shp Try.prog 50 = some (false, 1) := by kernel_rfl
theorem zro50 : zro Try.prog 50 = some (.slice none 0 0) := by kernel_rfl
theorem slc50 : slc Try.prog 50 = some (59, 5, 8) := by kernel_rfl
theorem shp51 : shp Try.prog 51 = some (true, 4) := by kernel_rfl
theorem fld51n0 : fld Try.prog 51 0 = some (0, false, 1) := by kernel_rfl
theorem fld51n1 : fld Try.prog 51 1 = some (1, false, 1) := by kernel_rfl
theorem fld51n2 : fld Try.prog 51 2 = some (2, false, 1) := by kernel_rfl
theorem fld51n3 : fld Try.prog 51 3 = some (3, false, 1) := by kernel_rfl
theorem bok51 : bldOk Try.prog 51 = true := by kernel_rfl
theorem sih51 : Try.prog.stoodInHeld 51 = false := by kernel_rfl
theorem egt51 : Try.prog.eqGuardType Try.prog.depth 51 = false := by kernel_rfl
theorem zro51 : zro Try.prog 51 = some (.agg #[.string ⟨#[]⟩, .int .i64 0, .int .i64 0, .int .i64 0]) := by kernel_rfl
theorem shp52 : shp Try.prog 52 = some (true, 4) := by kernel_rfl
theorem fld52n0 : fld Try.prog 52 0 = some (0, false, 1) := by kernel_rfl
theorem fld52n1 : fld Try.prog 52 1 = some (1, false, 1) := by kernel_rfl
theorem fld52n2 : fld Try.prog 52 2 = some (2, false, 1) := by kernel_rfl
theorem fld52n3 : fld Try.prog 52 3 = some (3, false, 1) := by kernel_rfl
theorem bok52 : bldOk Try.prog 52 = true := by kernel_rfl
theorem sih52 : Try.prog.stoodInHeld 52 = false := by kernel_rfl
theorem egt52 : Try.prog.eqGuardType Try.prog.depth 52 = false := by kernel_rfl
theorem zro52 : zro Try.prog 52 = some (.agg #[.string ⟨#[]⟩, .int .i64 0, .int .i64 0, .int .i64 0]) := by kernel_rfl
theorem shp53 : shp Try.prog 53 = some (true, 16) := by kernel_rfl
theorem bok53 : bldOk Try.prog 53 = false := by kernel_rfl
theorem zro53 : zro Try.prog 53 = some (.agg #[.int .i64 0, .int .i64 0, .int .i64 0, .int .i64 0, .int .i64 0, .int .i64 0, .int .i64 0, .int .i64 0, .int .i64 0, .int .i64 0, .int .i64 0, .int .i64 0, .int .i64 0, .int .i64 0, .int .i64 0, .int .i64 0]) := by kernel_rfl
theorem shp54 : shp Try.prog 54 = some (true, 16) := by kernel_rfl
theorem bok54 : bldOk Try.prog 54 = false := by kernel_rfl
theorem zro54 : zro Try.prog 54 = some (.agg #[.int .i64 0, .int .i64 0, .int .i64 0, .int .i64 0, .int .i64 0, .int .i64 0, .int .i64 0, .int .i64 0, .int .i64 0, .int .i64 0, .int .i64 0, .int .i64 0, .int .i64 0, .int .i64 0, .int .i64 0, .int .i64 0]) := by kernel_rfl
theorem shp55 : shp Try.prog 55 = some (true, 256) := by kernel_rfl
theorem bok55 : bldOk Try.prog 55 = false := by kernel_rfl
theorem zro55 : zro Try.prog 55 = some (.agg #[.bool false, .bool false, .bool false, .bool false, .bool false, .bool false, .bool false, .bool false, .bool false, .bool false, .bool false, .bool false, .bool false, .bool false, .bool false, .bool false, .bool false, .bool false, .bool false, .bool false, .bool false, .bool false, .bool false, .bool false, .bool false, .bool false, .bool false, .bool false, .bool false, .bool false, .bool false, .bool false, .bool false, .bool false, .bool false, .bool false, .bool false, .bool false, .bool false, .bool false, .bool false, .bool false, .bool false, .bool false, .bool false, .bool false, .bool false, .bool false, .bool false, .bool false, .bool false, .bool false, .bool false, .bool false, .bool false, .bool false, .bool false, .bool false, .bool false, .bool false, .bool false, .bool false, .bool false, .bool false, .bool false, .bool false, .bool false, .bool false, .bool false, .bool false, .bool false, .bool false, .bool false, .bool false, .bool false, .bool false, .bool false, .bool false, .bool false, .bool false, .bool false, .bool false, .bool false, .bool false, .bool false, .bool false, .bool false, .bool false, .bool false, .bool false, .bool false, .bool false, .bool false, .bool false, .bool false, .bool false, .bool false, .bool false, .bool false, .bool false, .bool false, .bool false, .bool false, .bool false, .bool false, .bool false, .bool false, .bool false, .bool false, .bool false, .bool false, .bool false, .bool false, .bool false, .bool false, .bool false, .bool false, .bool false, .bool false, .bool false, .bool false, .bool false, .bool false, .bool false, .bool false, .bool false, .bool false, .bool false, .bool false, .bool false, .bool false, .bool false, .bool false, .bool false, .bool false, .bool false, .bool false, .bool false, .bool false, .bool false, .bool false, .bool false, .bool false, .bool false, .bool false, .bool false, .bool false, .bool false, .bool false, .bool false, .bool false, .bool false, .bool false, .bool false, .bool false, .bool false, .bool false, .bool false, .bool false, .bool false, .bool false, .bool false, .bool false, .bool false, .bool false, .bool false, .bool false, .bool false, .bool false, .bool false, .bool false, .bool false, .bool false, .bool false, .bool false, .bool false, .bool false, .bool false, .bool false, .bool false, .bool false, .bool false, .bool false, .bool false, .bool false, .bool false, .bool false, .bool false, .bool false, .bool false, .bool false, .bool false, .bool false, .bool false, .bool false, .bool false, .bool false, .bool false, .bool false, .bool false, .bool false, .bool false, .bool false, .bool false, .bool false, .bool false, .bool false, .bool false, .bool false, .bool false, .bool false, .bool false, .bool false, .bool false, .bool false, .bool false, .bool false, .bool false, .bool false, .bool false, .bool false, .bool false, .bool false, .bool false, .bool false, .bool false, .bool false, .bool false, .bool false, .bool false, .bool false, .bool false, .bool false, .bool false, .bool false, .bool false, .bool false, .bool false, .bool false, .bool false, .bool false, .bool false, .bool false, .bool false, .bool false, .bool false, .bool false, .bool false, .bool false, .bool false, .bool false, .bool false, .bool false, .bool false, .bool false, .bool false]) := by kernel_rfl
theorem shp56 : shp Try.prog 56 = some (true, 256) := by kernel_rfl
theorem bok56 : bldOk Try.prog 56 = false := by kernel_rfl
theorem zro56 : zro Try.prog 56 = some (.agg #[.int .i64 0, .int .i64 0, .int .i64 0, .int .i64 0, .int .i64 0, .int .i64 0, .int .i64 0, .int .i64 0, .int .i64 0, .int .i64 0, .int .i64 0, .int .i64 0, .int .i64 0, .int .i64 0, .int .i64 0, .int .i64 0, .int .i64 0, .int .i64 0, .int .i64 0, .int .i64 0, .int .i64 0, .int .i64 0, .int .i64 0, .int .i64 0, .int .i64 0, .int .i64 0, .int .i64 0, .int .i64 0, .int .i64 0, .int .i64 0, .int .i64 0, .int .i64 0, .int .i64 0, .int .i64 0, .int .i64 0, .int .i64 0, .int .i64 0, .int .i64 0, .int .i64 0, .int .i64 0, .int .i64 0, .int .i64 0, .int .i64 0, .int .i64 0, .int .i64 0, .int .i64 0, .int .i64 0, .int .i64 0, .int .i64 0, .int .i64 0, .int .i64 0, .int .i64 0, .int .i64 0, .int .i64 0, .int .i64 0, .int .i64 0, .int .i64 0, .int .i64 0, .int .i64 0, .int .i64 0, .int .i64 0, .int .i64 0, .int .i64 0, .int .i64 0, .int .i64 0, .int .i64 0, .int .i64 0, .int .i64 0, .int .i64 0, .int .i64 0, .int .i64 0, .int .i64 0, .int .i64 0, .int .i64 0, .int .i64 0, .int .i64 0, .int .i64 0, .int .i64 0, .int .i64 0, .int .i64 0, .int .i64 0, .int .i64 0, .int .i64 0, .int .i64 0, .int .i64 0, .int .i64 0, .int .i64 0, .int .i64 0, .int .i64 0, .int .i64 0, .int .i64 0, .int .i64 0, .int .i64 0, .int .i64 0, .int .i64 0, .int .i64 0, .int .i64 0, .int .i64 0, .int .i64 0, .int .i64 0, .int .i64 0, .int .i64 0, .int .i64 0, .int .i64 0, .int .i64 0, .int .i64 0, .int .i64 0, .int .i64 0, .int .i64 0, .int .i64 0, .int .i64 0, .int .i64 0, .int .i64 0, .int .i64 0, .int .i64 0, .int .i64 0, .int .i64 0, .int .i64 0, .int .i64 0, .int .i64 0, .int .i64 0, .int .i64 0, .int .i64 0, .int .i64 0, .int .i64 0, .int .i64 0, .int .i64 0, .int .i64 0, .int .i64 0, .int .i64 0, .int .i64 0, .int .i64 0, .int .i64 0, .int .i64 0, .int .i64 0, .int .i64 0, .int .i64 0, .int .i64 0, .int .i64 0, .int .i64 0, .int .i64 0, .int .i64 0, .int .i64 0, .int .i64 0, .int .i64 0, .int .i64 0, .int .i64 0, .int .i64 0, .int .i64 0, .int .i64 0, .int .i64 0, .int .i64 0, .int .i64 0, .int .i64 0, .int .i64 0, .int .i64 0, .int .i64 0, .int .i64 0, .int .i64 0, .int .i64 0, .int .i64 0, .int .i64 0, .int .i64 0, .int .i64 0, .int .i64 0, .int .i64 0, .int .i64 0, .int .i64 0, .int .i64 0, .int .i64 0, .int .i64 0, .int .i64 0, .int .i64 0, .int .i64 0, .int .i64 0, .int .i64 0, .int .i64 0, .int .i64 0, .int .i64 0, .int .i64 0, .int .i64 0, .int .i64 0, .int .i64 0, .int .i64 0, .int .i64 0, .int .i64 0, .int .i64 0, .int .i64 0, .int .i64 0, .int .i64 0, .int .i64 0, .int .i64 0, .int .i64 0, .int .i64 0, .int .i64 0, .int .i64 0, .int .i64 0, .int .i64 0, .int .i64 0, .int .i64 0, .int .i64 0, .int .i64 0, .int .i64 0, .int .i64 0, .int .i64 0, .int .i64 0, .int .i64 0, .int .i64 0, .int .i64 0, .int .i64 0, .int .i64 0, .int .i64 0, .int .i64 0, .int .i64 0, .int .i64 0, .int .i64 0, .int .i64 0, .int .i64 0, .int .i64 0, .int .i64 0, .int .i64 0, .int .i64 0, .int .i64 0, .int .i64 0, .int .i64 0, .int .i64 0, .int .i64 0, .int .i64 0, .int .i64 0, .int .i64 0, .int .i64 0, .int .i64 0, .int .i64 0, .int .i64 0, .int .i64 0, .int .i64 0, .int .i64 0, .int .i64 0, .int .i64 0, .int .i64 0, .int .i64 0, .int .i64 0, .int .i64 0, .int .i64 0, .int .i64 0, .int .i64 0, .int .i64 0, .int .i64 0, .int .i64 0, .int .i64 0, .int .i64 0, .int .i64 0, .int .i64 0, .int .i64 0, .int .i64 0, .int .i64 0]) := by kernel_rfl
theorem shp57 : shp Try.prog 57 = some (true, 256) := by kernel_rfl
theorem bok57 : bldOk Try.prog 57 = false := by kernel_rfl
theorem zro57 : zro Try.prog 57 = some (.agg #[.int .i64 0, .int .i64 0, .int .i64 0, .int .i64 0, .int .i64 0, .int .i64 0, .int .i64 0, .int .i64 0, .int .i64 0, .int .i64 0, .int .i64 0, .int .i64 0, .int .i64 0, .int .i64 0, .int .i64 0, .int .i64 0, .int .i64 0, .int .i64 0, .int .i64 0, .int .i64 0, .int .i64 0, .int .i64 0, .int .i64 0, .int .i64 0, .int .i64 0, .int .i64 0, .int .i64 0, .int .i64 0, .int .i64 0, .int .i64 0, .int .i64 0, .int .i64 0, .int .i64 0, .int .i64 0, .int .i64 0, .int .i64 0, .int .i64 0, .int .i64 0, .int .i64 0, .int .i64 0, .int .i64 0, .int .i64 0, .int .i64 0, .int .i64 0, .int .i64 0, .int .i64 0, .int .i64 0, .int .i64 0, .int .i64 0, .int .i64 0, .int .i64 0, .int .i64 0, .int .i64 0, .int .i64 0, .int .i64 0, .int .i64 0, .int .i64 0, .int .i64 0, .int .i64 0, .int .i64 0, .int .i64 0, .int .i64 0, .int .i64 0, .int .i64 0, .int .i64 0, .int .i64 0, .int .i64 0, .int .i64 0, .int .i64 0, .int .i64 0, .int .i64 0, .int .i64 0, .int .i64 0, .int .i64 0, .int .i64 0, .int .i64 0, .int .i64 0, .int .i64 0, .int .i64 0, .int .i64 0, .int .i64 0, .int .i64 0, .int .i64 0, .int .i64 0, .int .i64 0, .int .i64 0, .int .i64 0, .int .i64 0, .int .i64 0, .int .i64 0, .int .i64 0, .int .i64 0, .int .i64 0, .int .i64 0, .int .i64 0, .int .i64 0, .int .i64 0, .int .i64 0, .int .i64 0, .int .i64 0, .int .i64 0, .int .i64 0, .int .i64 0, .int .i64 0, .int .i64 0, .int .i64 0, .int .i64 0, .int .i64 0, .int .i64 0, .int .i64 0, .int .i64 0, .int .i64 0, .int .i64 0, .int .i64 0, .int .i64 0, .int .i64 0, .int .i64 0, .int .i64 0, .int .i64 0, .int .i64 0, .int .i64 0, .int .i64 0, .int .i64 0, .int .i64 0, .int .i64 0, .int .i64 0, .int .i64 0, .int .i64 0, .int .i64 0, .int .i64 0, .int .i64 0, .int .i64 0, .int .i64 0, .int .i64 0, .int .i64 0, .int .i64 0, .int .i64 0, .int .i64 0, .int .i64 0, .int .i64 0, .int .i64 0, .int .i64 0, .int .i64 0, .int .i64 0, .int .i64 0, .int .i64 0, .int .i64 0, .int .i64 0, .int .i64 0, .int .i64 0, .int .i64 0, .int .i64 0, .int .i64 0, .int .i64 0, .int .i64 0, .int .i64 0, .int .i64 0, .int .i64 0, .int .i64 0, .int .i64 0, .int .i64 0, .int .i64 0, .int .i64 0, .int .i64 0, .int .i64 0, .int .i64 0, .int .i64 0, .int .i64 0, .int .i64 0, .int .i64 0, .int .i64 0, .int .i64 0, .int .i64 0, .int .i64 0, .int .i64 0, .int .i64 0, .int .i64 0, .int .i64 0, .int .i64 0, .int .i64 0, .int .i64 0, .int .i64 0, .int .i64 0, .int .i64 0, .int .i64 0, .int .i64 0, .int .i64 0, .int .i64 0, .int .i64 0, .int .i64 0, .int .i64 0, .int .i64 0, .int .i64 0, .int .i64 0, .int .i64 0, .int .i64 0, .int .i64 0, .int .i64 0, .int .i64 0, .int .i64 0, .int .i64 0, .int .i64 0, .int .i64 0, .int .i64 0, .int .i64 0, .int .i64 0, .int .i64 0, .int .i64 0, .int .i64 0, .int .i64 0, .int .i64 0, .int .i64 0, .int .i64 0, .int .i64 0, .int .i64 0, .int .i64 0, .int .i64 0, .int .i64 0, .int .i64 0, .int .i64 0, .int .i64 0, .int .i64 0, .int .i64 0, .int .i64 0, .int .i64 0, .int .i64 0, .int .i64 0, .int .i64 0, .int .i64 0, .int .i64 0, .int .i64 0, .int .i64 0, .int .i64 0, .int .i64 0, .int .i64 0, .int .i64 0, .int .i64 0, .int .i64 0, .int .i64 0, .int .i64 0, .int .i64 0, .int .i64 0, .int .i64 0, .int .i64 0, .int .i64 0, .int .i64 0, .int .i64 0, .int .i64 0, .int .i64 0, .int .i64 0, .int .i64 0, .int .i64 0, .int .i64 0, .int .i64 0, .int .i64 0, .int .i64 0]) := by kernel_rfl
theorem shp58 : shp Try.prog 58 = some (true, 5) := by kernel_rfl
theorem fld58n0 : fld Try.prog 58 0 = some (0, false, 1) := by kernel_rfl
theorem fld58n1 : fld Try.prog 58 1 = some (1, false, 1) := by kernel_rfl
theorem fld58n2 : fld Try.prog 58 2 = some (2, false, 1) := by kernel_rfl
theorem fld58n3 : fld Try.prog 58 3 = some (3, false, 1) := by kernel_rfl
theorem fld58n4 : fld Try.prog 58 4 = some (4, false, 1) := by kernel_rfl
theorem bok58 : bldOk Try.prog 58 = true := by kernel_rfl
theorem sih58 : Try.prog.stoodInHeld 58 = false := by kernel_rfl
theorem egt58 : Try.prog.eqGuardType Try.prog.depth 58 = false := by kernel_rfl
theorem zro58 : zro Try.prog 58 = some (.agg #[.int .u8 0, .int .u8 0, .int .u8 0, .int .u16 0, .bool false]) := by kernel_rfl
theorem shp59 : shp Try.prog 59 = some (true, 5) := by kernel_rfl
theorem fld59n0 : fld Try.prog 59 0 = some (0, false, 1) := by kernel_rfl
theorem fld59n1 : fld Try.prog 59 1 = some (1, false, 1) := by kernel_rfl
theorem fld59n2 : fld Try.prog 59 2 = some (2, false, 1) := by kernel_rfl
theorem fld59n3 : fld Try.prog 59 3 = some (3, false, 1) := by kernel_rfl
theorem fld59n4 : fld Try.prog 59 4 = some (4, false, 1) := by kernel_rfl
theorem bok59 : bldOk Try.prog 59 = true := by kernel_rfl
theorem sih59 : Try.prog.stoodInHeld 59 = false := by kernel_rfl
theorem egt59 : Try.prog.eqGuardType Try.prog.depth 59 = false := by kernel_rfl
theorem zro59 : zro Try.prog 59 = some (.agg #[.int .u8 0, .int .u8 0, .int .u8 0, .int .u16 0, .bool false]) := by kernel_rfl
theorem shp60 : shp Try.prog 60 = some (false, 1) := by kernel_rfl
theorem zro60 : zro Try.prog 60 = some (.slice none 0 0) := by kernel_rfl
theorem slc60 : slc Try.prog 60 = some (5, 1, 1) := by kernel_rfl
theorem shp63 : shp Try.prog 63 = some (true, 5) := by kernel_rfl
theorem fld63n0 : fld Try.prog 63 0 = some (0, false, 1) := by kernel_rfl
theorem fld63n1 : fld Try.prog 63 1 = some (1, false, 1) := by kernel_rfl
theorem fld63n2 : fld Try.prog 63 2 = some (2, false, 1) := by kernel_rfl
theorem fld63n3 : fld Try.prog 63 3 = some (3, false, 1) := by kernel_rfl
theorem fld63n4 : fld Try.prog 63 4 = some (4, false, 1) := by kernel_rfl
theorem bok63 : bldOk Try.prog 63 = true := by kernel_rfl
theorem sih63 : Try.prog.stoodInHeld 63 = false := by kernel_rfl
theorem egt63 : Try.prog.eqGuardType Try.prog.depth 63 = false := by kernel_rfl
theorem zro63 : zro Try.prog 63 = some (.agg #[.string ⟨#[]⟩, .string ⟨#[]⟩, .string ⟨#[]⟩, .int .i64 0, .int .i64 0]) := by kernel_rfl
theorem shp64 : shp Try.prog 64 = some (true, 5) := by kernel_rfl
theorem fld64n0 : fld Try.prog 64 0 = some (0, false, 1) := by kernel_rfl
theorem fld64n1 : fld Try.prog 64 1 = some (1, false, 1) := by kernel_rfl
theorem fld64n2 : fld Try.prog 64 2 = some (2, false, 1) := by kernel_rfl
theorem fld64n3 : fld Try.prog 64 3 = some (3, false, 1) := by kernel_rfl
theorem fld64n4 : fld Try.prog 64 4 = some (4, false, 1) := by kernel_rfl
theorem bok64 : bldOk Try.prog 64 = true := by kernel_rfl
theorem sih64 : Try.prog.stoodInHeld 64 = false := by kernel_rfl
theorem egt64 : Try.prog.eqGuardType Try.prog.depth 64 = false := by kernel_rfl
theorem zro64 : zro Try.prog 64 = some (.agg #[.string ⟨#[]⟩, .string ⟨#[]⟩, .string ⟨#[]⟩, .int .i64 0, .int .i64 0]) := by kernel_rfl
theorem shp67 : shp Try.prog 67 = some (false, 1) := by kernel_rfl
theorem zro67 : zro Try.prog 67 = some (.map none) := by kernel_rfl
theorem shp68 : shp Try.prog 68 = some (false, 1) := by kernel_rfl
theorem zro68 : zro Try.prog 68 = some (.map none) := by kernel_rfl
theorem shp69 : shp Try.prog 69 = some (false, 1) := by kernel_rfl
theorem zro69 : zro Try.prog 69 = some (.map none) := by kernel_rfl
theorem shp70 : shp Try.prog 70 = some (false, 1) := by kernel_rfl
theorem zro70 : zro Try.prog 70 = some (.slice none 0 0) := by kernel_rfl
theorem slc70 : slc Try.prog 70 = some (82, 1, 8) := by kernel_rfl
theorem shp71 : shp Try.prog 71 = some (true, 4) := by kernel_rfl
theorem fld71n0 : fld Try.prog 71 0 = some (0, false, 1) := by kernel_rfl
theorem fld71n1 : fld Try.prog 71 1 = some (1, false, 1) := by kernel_rfl
theorem fld71n2 : fld Try.prog 71 2 = some (2, false, 1) := by kernel_rfl
theorem fld71n3 : fld Try.prog 71 3 = some (3, false, 1) := by kernel_rfl
theorem bok71 : bldOk Try.prog 71 = true := by kernel_rfl
theorem sih71 : Try.prog.stoodInHeld 71 = false := by kernel_rfl
theorem egt71 : Try.prog.eqGuardType Try.prog.depth 71 = false := by kernel_rfl
theorem zro71 : zro Try.prog 71 = some (.agg #[.map none, .slice none 0 0, .map none, .map none]) := by kernel_rfl
theorem shp72 : shp Try.prog 72 = some (true, 4) := by kernel_rfl
theorem fld72n0 : fld Try.prog 72 0 = some (0, false, 1) := by kernel_rfl
theorem fld72n1 : fld Try.prog 72 1 = some (1, false, 1) := by kernel_rfl
theorem fld72n2 : fld Try.prog 72 2 = some (2, false, 1) := by kernel_rfl
theorem fld72n3 : fld Try.prog 72 3 = some (3, false, 1) := by kernel_rfl
theorem bok72 : bldOk Try.prog 72 = true := by kernel_rfl
theorem sih72 : Try.prog.stoodInHeld 72 = false := by kernel_rfl
theorem egt72 : Try.prog.eqGuardType Try.prog.depth 72 = false := by kernel_rfl
theorem zro72 : zro Try.prog 72 = some (.agg #[.map none, .slice none 0 0, .map none, .map none]) := by kernel_rfl
theorem shp76 : shp Try.prog 76 = some (true, 4) := by kernel_rfl
theorem fld76n0 : fld Try.prog 76 0 = some (0, false, 1) := by kernel_rfl
theorem fld76n1 : fld Try.prog 76 1 = some (1, false, 1) := by kernel_rfl
theorem fld76n2 : fld Try.prog 76 2 = some (2, false, 1) := by kernel_rfl
theorem fld76n3 : fld Try.prog 76 3 = some (3, false, 1) := by kernel_rfl
theorem bok76 : bldOk Try.prog 76 = true := by kernel_rfl
theorem sih76 : Try.prog.stoodInHeld 76 = false := by kernel_rfl
theorem egt76 : Try.prog.eqGuardType Try.prog.depth 76 = false := by kernel_rfl
theorem zro76 : zro Try.prog 76 = some (.agg #[.string ⟨#[]⟩, .int .i64 0, .int .i64 0, .int .i64 0]) := by kernel_rfl
theorem shp77 : shp Try.prog 77 = some (false, 1) := by kernel_rfl
theorem zro77 : zro Try.prog 77 = some (.slice none 0 0) := by kernel_rfl
theorem slc77 : slc Try.prog 77 = some (91, 9, 80) := by kernel_rfl
theorem shp78 : shp Try.prog 78 = some (true, 2) := by kernel_rfl
theorem fld78n0 : fld Try.prog 78 0 = some (0, false, 1) := by kernel_rfl
theorem fld78n1 : fld Try.prog 78 1 = some (1, false, 1) := by kernel_rfl
theorem bok78 : bldOk Try.prog 78 = true := by kernel_rfl
theorem sih78 : Try.prog.stoodInHeld 78 = false := by kernel_rfl
theorem egt78 : Try.prog.eqGuardType Try.prog.depth 78 = false := by kernel_rfl
theorem zro78 : zro Try.prog 78 = some (.agg #[.slice none 0 0, .slice none 0 0]) := by kernel_rfl
theorem shp79 : shp Try.prog 79 = some (true, 2) := by kernel_rfl
theorem fld79n0 : fld Try.prog 79 0 = some (0, false, 1) := by kernel_rfl
theorem fld79n1 : fld Try.prog 79 1 = some (1, false, 1) := by kernel_rfl
theorem bok79 : bldOk Try.prog 79 = true := by kernel_rfl
theorem sih79 : Try.prog.stoodInHeld 79 = false := by kernel_rfl
theorem egt79 : Try.prog.eqGuardType Try.prog.depth 79 = false := by kernel_rfl
theorem zro79 : zro Try.prog 79 = some (.agg #[.slice none 0 0, .slice none 0 0]) := by kernel_rfl
theorem shp82 : shp Try.prog 82 = some (false, 1) := by kernel_rfl
theorem zro82 : zro Try.prog 82 = some (.pointer none) := by kernel_rfl
theorem shp84 : shp Try.prog 84 = some (true, 8) := by kernel_rfl
theorem fld84n0 : fld Try.prog 84 0 = some (0, true, 5) := by kernel_rfl
theorem fld84n1 : fld Try.prog 84 1 = some (5, false, 1) := by kernel_rfl
theorem fld84n2 : fld Try.prog 84 2 = some (6, false, 1) := by kernel_rfl
theorem fld84n3 : fld Try.prog 84 3 = some (7, false, 1) := by kernel_rfl
theorem bok84 : bldOk Try.prog 84 = true := by kernel_rfl
theorem sih84 : Try.prog.stoodInHeld 84 = false := by kernel_rfl
theorem egt84 : Try.prog.eqGuardType Try.prog.depth 84 = false := by kernel_rfl
theorem zro84 : zro Try.prog 84 = some (.agg #[.string ⟨#[]⟩, .string ⟨#[]⟩, .string ⟨#[]⟩, .int .i64 0, .int .i64 0, .int .i64 0, .bool false, .bool false]) := by kernel_rfl
theorem shp85 : shp Try.prog 85 = some (true, 8) := by kernel_rfl
theorem fld85n0 : fld Try.prog 85 0 = some (0, true, 5) := by kernel_rfl
theorem fld85n1 : fld Try.prog 85 1 = some (5, false, 1) := by kernel_rfl
theorem fld85n2 : fld Try.prog 85 2 = some (6, false, 1) := by kernel_rfl
theorem fld85n3 : fld Try.prog 85 3 = some (7, false, 1) := by kernel_rfl
theorem bok85 : bldOk Try.prog 85 = true := by kernel_rfl
theorem sih85 : Try.prog.stoodInHeld 85 = false := by kernel_rfl
theorem egt85 : Try.prog.eqGuardType Try.prog.depth 85 = false := by kernel_rfl
theorem zro85 : zro Try.prog 85 = some (.agg #[.string ⟨#[]⟩, .string ⟨#[]⟩, .string ⟨#[]⟩, .int .i64 0, .int .i64 0, .int .i64 0, .bool false, .bool false]) := by kernel_rfl
theorem shp89 : shp Try.prog 89 = some (true, 5) := by kernel_rfl
theorem fld89n0 : fld Try.prog 89 0 = some (0, false, 1) := by kernel_rfl
theorem fld89n1 : fld Try.prog 89 1 = some (1, false, 1) := by kernel_rfl
theorem fld89n2 : fld Try.prog 89 2 = some (2, false, 1) := by kernel_rfl
theorem fld89n3 : fld Try.prog 89 3 = some (3, false, 1) := by kernel_rfl
theorem fld89n4 : fld Try.prog 89 4 = some (4, false, 1) := by kernel_rfl
theorem bok89 : bldOk Try.prog 89 = true := by kernel_rfl
theorem sih89 : Try.prog.stoodInHeld 89 = false := by kernel_rfl
theorem egt89 : Try.prog.eqGuardType Try.prog.depth 89 = false := by kernel_rfl
theorem zro89 : zro Try.prog 89 = some (.agg #[.string ⟨#[]⟩, .string ⟨#[]⟩, .string ⟨#[]⟩, .int .i64 0, .int .i64 0]) := by kernel_rfl
theorem shp90 : shp Try.prog 90 = some (true, 9) := by kernel_rfl
theorem fld90n0 : fld Try.prog 90 0 = some (0, true, 5) := by kernel_rfl
theorem fld90n1 : fld Try.prog 90 1 = some (5, false, 1) := by kernel_rfl
theorem fld90n2 : fld Try.prog 90 2 = some (6, false, 1) := by kernel_rfl
theorem fld90n3 : fld Try.prog 90 3 = some (7, false, 1) := by kernel_rfl
theorem fld90n4 : fld Try.prog 90 4 = some (8, false, 1) := by kernel_rfl
theorem bok90 : bldOk Try.prog 90 = true := by kernel_rfl
theorem sih90 : Try.prog.stoodInHeld 90 = false := by kernel_rfl
theorem egt90 : Try.prog.eqGuardType Try.prog.depth 90 = false := by kernel_rfl
theorem zro90 : zro Try.prog 90 = some (.agg #[.string ⟨#[]⟩, .string ⟨#[]⟩, .string ⟨#[]⟩, .int .i64 0, .int .i64 0, .int .i64 0, .bool false, .bool false, .bool false]) := by kernel_rfl
theorem shp91 : shp Try.prog 91 = some (true, 9) := by kernel_rfl
theorem fld91n0 : fld Try.prog 91 0 = some (0, true, 5) := by kernel_rfl
theorem fld91n1 : fld Try.prog 91 1 = some (5, false, 1) := by kernel_rfl
theorem fld91n2 : fld Try.prog 91 2 = some (6, false, 1) := by kernel_rfl
theorem fld91n3 : fld Try.prog 91 3 = some (7, false, 1) := by kernel_rfl
theorem fld91n4 : fld Try.prog 91 4 = some (8, false, 1) := by kernel_rfl
theorem bok91 : bldOk Try.prog 91 = true := by kernel_rfl
theorem sih91 : Try.prog.stoodInHeld 91 = false := by kernel_rfl
theorem egt91 : Try.prog.eqGuardType Try.prog.depth 91 = false := by kernel_rfl
theorem zro91 : zro Try.prog 91 = some (.agg #[.string ⟨#[]⟩, .string ⟨#[]⟩, .string ⟨#[]⟩, .int .i64 0, .int .i64 0, .int .i64 0, .bool false, .bool false, .bool false]) := by kernel_rfl
theorem shp103 : shp Try.prog 103 = some (false, 1) := by kernel_rfl
theorem zro103 : zro Try.prog 103 = some (.int .u64 0) := by kernel_rfl
theorem shp106 : shp Try.prog 106 = some (true, 4) := by kernel_rfl
theorem fld106n0 : fld Try.prog 106 0 = some (0, false, 1) := by kernel_rfl
theorem fld106n1 : fld Try.prog 106 1 = some (1, false, 1) := by kernel_rfl
theorem fld106n2 : fld Try.prog 106 2 = some (2, false, 1) := by kernel_rfl
theorem fld106n3 : fld Try.prog 106 3 = some (3, false, 1) := by kernel_rfl
theorem bok106 : bldOk Try.prog 106 = true := by kernel_rfl
theorem zro106 : zro Try.prog 106 = some (.agg #[.pointer none, .pointer none, .pointer none, .string ⟨#[]⟩]) := by kernel_rfl
theorem shp107 : shp Try.prog 107 = some (true, 4) := by kernel_rfl
theorem fld107n0 : fld Try.prog 107 0 = some (0, false, 1) := by kernel_rfl
theorem fld107n1 : fld Try.prog 107 1 = some (1, false, 1) := by kernel_rfl
theorem fld107n2 : fld Try.prog 107 2 = some (2, false, 1) := by kernel_rfl
theorem fld107n3 : fld Try.prog 107 3 = some (3, false, 1) := by kernel_rfl
theorem bok107 : bldOk Try.prog 107 = true := by kernel_rfl
theorem zro107 : zro Try.prog 107 = some (.agg #[.pointer none, .pointer none, .pointer none, .string ⟨#[]⟩]) := by kernel_rfl
theorem shp108 : shp Try.prog 108 = some (true, 0) := by kernel_rfl
theorem bok108 : bldOk Try.prog 108 = false := by kernel_rfl
theorem zro108 : zro Try.prog 108 = some (.agg #[]) := by kernel_rfl
theorem shp109 : shp Try.prog 109 = some (true, 0) := by kernel_rfl
theorem fld109n0 : fld Try.prog 109 0 = some (0, true, 0) := by kernel_rfl
theorem bok109 : bldOk Try.prog 109 = true := by kernel_rfl
theorem zro109 : zro Try.prog 109 = some (.agg #[]) := by kernel_rfl
theorem shp110 : shp Try.prog 110 = some (true, 0) := by kernel_rfl
theorem fld110n0 : fld Try.prog 110 0 = some (0, true, 0) := by kernel_rfl
theorem bok110 : bldOk Try.prog 110 = true := by kernel_rfl
theorem zro110 : zro Try.prog 110 = some (.agg #[]) := by kernel_rfl
theorem shp112 : shp Try.prog 112 = some (false, 1) := by kernel_rfl
theorem zro112 : zro Try.prog 112 = some (.int .u32 0) := by kernel_rfl
theorem shp113 : shp Try.prog 113 = some (false, 1) := by kernel_rfl
theorem zro113 : zro Try.prog 113 = some (.int .u8 0) := by kernel_rfl
theorem shp114 : shp Try.prog 114 = some (false, 1) := by kernel_rfl
theorem zro114 : zro Try.prog 114 = some (.int .u8 0) := by kernel_rfl
theorem shp116 : shp Try.prog 116 = some (false, 1) := by kernel_rfl
theorem zro116 : zro Try.prog 116 = some (.pointer none) := by kernel_rfl
theorem shp117 : shp Try.prog 117 = some (false, 1) := by kernel_rfl
theorem zro117 : zro Try.prog 117 = some (.int .i32 0) := by kernel_rfl
theorem shp118 : shp Try.prog 118 = some (false, 1) := by kernel_rfl
theorem zro118 : zro Try.prog 118 = some (.int .i32 0) := by kernel_rfl
theorem shp119 : shp Try.prog 119 = some (true, 11) := by kernel_rfl
theorem fld119n0 : fld Try.prog 119 0 = some (0, false, 1) := by kernel_rfl
theorem fld119n1 : fld Try.prog 119 1 = some (1, false, 1) := by kernel_rfl
theorem fld119n2 : fld Try.prog 119 2 = some (2, false, 1) := by kernel_rfl
theorem fld119n3 : fld Try.prog 119 3 = some (3, false, 1) := by kernel_rfl
theorem fld119n4 : fld Try.prog 119 4 = some (4, false, 1) := by kernel_rfl
theorem fld119n5 : fld Try.prog 119 5 = some (5, false, 1) := by kernel_rfl
theorem fld119n6 : fld Try.prog 119 6 = some (6, false, 1) := by kernel_rfl
theorem fld119n7 : fld Try.prog 119 7 = some (7, false, 1) := by kernel_rfl
theorem fld119n8 : fld Try.prog 119 8 = some (8, false, 1) := by kernel_rfl
theorem fld119n9 : fld Try.prog 119 9 = some (9, false, 1) := by kernel_rfl
theorem fld119n10 : fld Try.prog 119 10 = some (10, false, 1) := by kernel_rfl
theorem bok119 : bldOk Try.prog 119 = true := by kernel_rfl
theorem zro119 : zro Try.prog 119 = some (.agg #[.int .u64 0, .int .u64 0, .int .u32 0, .int .u8 0, .int .u8 0, .int .u8 0, .int .u8 0, .nilFunc, .pointer none, .int .i32 0, .int .i32 0]) := by kernel_rfl
theorem shp120 : shp Try.prog 120 = some (true, 11) := by kernel_rfl
theorem fld120n0 : fld Try.prog 120 0 = some (0, false, 1) := by kernel_rfl
theorem fld120n1 : fld Try.prog 120 1 = some (1, false, 1) := by kernel_rfl
theorem fld120n2 : fld Try.prog 120 2 = some (2, false, 1) := by kernel_rfl
theorem fld120n3 : fld Try.prog 120 3 = some (3, false, 1) := by kernel_rfl
theorem fld120n4 : fld Try.prog 120 4 = some (4, false, 1) := by kernel_rfl
theorem fld120n5 : fld Try.prog 120 5 = some (5, false, 1) := by kernel_rfl
theorem fld120n6 : fld Try.prog 120 6 = some (6, false, 1) := by kernel_rfl
theorem fld120n7 : fld Try.prog 120 7 = some (7, false, 1) := by kernel_rfl
theorem fld120n8 : fld Try.prog 120 8 = some (8, false, 1) := by kernel_rfl
theorem fld120n9 : fld Try.prog 120 9 = some (9, false, 1) := by kernel_rfl
theorem fld120n10 : fld Try.prog 120 10 = some (10, false, 1) := by kernel_rfl
theorem bok120 : bldOk Try.prog 120 = true := by kernel_rfl
theorem zro120 : zro Try.prog 120 = some (.agg #[.int .u64 0, .int .u64 0, .int .u32 0, .int .u8 0, .int .u8 0, .int .u8 0, .int .u8 0, .nilFunc, .pointer none, .int .i32 0, .int .i32 0]) := by kernel_rfl
theorem shp121 : shp Try.prog 121 = some (false, 1) := by kernel_rfl
theorem zro121 : zro Try.prog 121 = some (.pointer none) := by kernel_rfl
theorem cal2 : callable Try.prog 2 = true := by kernel_rfl
theorem cal3 : callable Try.prog 3 = true := by kernel_rfl
theorem cal4 : callable Try.prog 4 = true := by kernel_rfl
theorem cal5 : callable Try.prog 5 = true := by kernel_rfl
theorem cal6 : callable Try.prog 6 = true := by kernel_rfl
theorem cal7 : callable Try.prog 7 = true := by kernel_rfl
theorem cal8 : callable Try.prog 8 = true := by kernel_rfl
theorem cal9 : callable Try.prog 9 = true := by kernel_rfl
theorem cal10 : callable Try.prog 10 = true := by kernel_rfl
theorem cal11 : callable Try.prog 11 = true := by kernel_rfl
theorem cal12 : callable Try.prog 12 = true := by kernel_rfl
theorem cal13 : callable Try.prog 13 = true := by kernel_rfl
theorem cal14 : callable Try.prog 14 = true := by kernel_rfl
theorem cal15 : callable Try.prog 15 = true := by kernel_rfl
theorem cal16 : callable Try.prog 16 = true := by kernel_rfl
theorem cal17 : callable Try.prog 17 = true := by kernel_rfl
theorem cal18 : callable Try.prog 18 = true := by kernel_rfl
theorem cal19 : callable Try.prog 19 = true := by kernel_rfl
theorem cal20 : callable Try.prog 20 = true := by kernel_rfl
theorem cal21 : callable Try.prog 21 = true := by kernel_rfl
theorem cal22 : callable Try.prog 22 = true := by kernel_rfl
theorem cal23 : callable Try.prog 23 = true := by kernel_rfl
theorem cal24 : callable Try.prog 24 = true := by kernel_rfl
theorem cal25 : callable Try.prog 25 = true := by kernel_rfl
theorem cal26 : callable Try.prog 26 = true := by kernel_rfl
theorem cal27 : callable Try.prog 27 = true := by kernel_rfl
theorem cal28 : callable Try.prog 28 = true := by kernel_rfl
theorem cal29 : callable Try.prog 29 = true := by kernel_rfl
theorem cal30 : callable Try.prog 30 = true := by kernel_rfl
theorem cal31 : callable Try.prog 31 = true := by kernel_rfl
theorem cal32 : callable Try.prog 32 = true := by kernel_rfl
theorem cal33 : callable Try.prog 33 = true := by kernel_rfl
theorem cal34 : callable Try.prog 34 = true := by kernel_rfl
theorem cal35 : callable Try.prog 35 = true := by kernel_rfl
theorem cal36 : callable Try.prog 36 = true := by kernel_rfl
theorem cal37 : callable Try.prog 37 = true := by kernel_rfl
theorem cal38 : callable Try.prog 38 = true := by kernel_rfl
theorem cal39 : callable Try.prog 39 = true := by kernel_rfl
theorem cal40 : callable Try.prog 40 = true := by kernel_rfl
theorem cal41 : callable Try.prog 41 = true := by kernel_rfl
theorem cal42 : callable Try.prog 42 = true := by kernel_rfl
theorem cal43 : callable Try.prog 43 = true := by kernel_rfl
theorem cal44 : callable Try.prog 44 = true := by kernel_rfl
theorem cal45 : callable Try.prog 45 = true := by kernel_rfl
theorem cal46 : callable Try.prog 46 = true := by kernel_rfl
theorem cal47 : callable Try.prog 47 = true := by kernel_rfl
theorem cal48 : callable Try.prog 48 = true := by kernel_rfl
theorem cal49 : callable Try.prog 49 = true := by kernel_rfl
theorem cal50 : callable Try.prog 50 = true := by kernel_rfl
theorem cal51 : callable Try.prog 51 = true := by kernel_rfl
theorem cal52 : callable Try.prog 52 = true := by kernel_rfl
theorem cal53 : callable Try.prog 53 = true := by kernel_rfl
theorem cal54 : callable Try.prog 54 = true := by kernel_rfl
theorem cal55 : callable Try.prog 55 = true := by kernel_rfl
theorem cal56 : callable Try.prog 56 = true := by kernel_rfl
theorem cal58 : callable Try.prog 58 = true := by kernel_rfl
theorem cal0 : callable Try.prog 0 = false := by kernel_rfl
theorem cal1 : callable Try.prog 1 = false := by kernel_rfl
theorem cal57 : callable Try.prog 57 = false := by kernel_rfl
theorem cal59 : callable Try.prog 59 = false := by kernel_rfl
theorem cal60 : callable Try.prog 60 = false := by kernel_rfl
theorem cal61 : callable Try.prog 61 = false := by kernel_rfl
theorem cal62 : callable Try.prog 62 = false := by kernel_rfl
theorem cal63 : callable Try.prog 63 = false := by kernel_rfl
theorem cal64 : callable Try.prog 64 = false := by kernel_rfl
theorem cal65 : callable Try.prog 65 = false := by kernel_rfl
theorem cal66 : callable Try.prog 66 = false := by kernel_rfl
theorem cal67 : callable Try.prog 67 = false := by kernel_rfl
theorem cal68 : callable Try.prog 68 = false := by kernel_rfl
theorem cal69 : callable Try.prog 69 = false := by kernel_rfl
theorem cal70 : callable Try.prog 70 = false := by kernel_rfl
theorem cal71 : callable Try.prog 71 = false := by kernel_rfl
theorem cal72 : callable Try.prog 72 = false := by kernel_rfl
theorem cal73 : callable Try.prog 73 = false := by kernel_rfl
theorem cal74 : callable Try.prog 74 = false := by kernel_rfl
theorem cal75 : callable Try.prog 75 = false := by kernel_rfl
theorem tyS0 : type_of% (And.intro @shp2 (And.intro @zro2 (And.intro @shp3 (And.intro @zro3 (And.intro @shp4 (And.intro @zro4 (And.intro @shp5 (And.intro @zro5 (And.intro @shp6 (And.intro @zro6 (And.intro @shp7 (And.intro @fld7n0 (And.intro @fld7n1 (And.intro @fld7n2 (And.intro @fld7n3 (And.intro @bok7 (And.intro @zro7 (And.intro @shp8 (And.intro @fld8n0 (And.intro @fld8n1 (And.intro @fld8n2 (And.intro @fld8n3 (And.intro @bok8 (And.intro @zro8 (And.intro @shp9 (And.intro @zro9 (And.intro @shp10 (And.intro @zro10 (And.intro @shp11 (And.intro @zro11 (And.intro @shp12 (And.intro @zro12 (And.intro @shp13 (And.intro @fld13n0 (And.intro @fld13n1 (And.intro @bok13 (And.intro @zro13 (And.intro @shp14 (And.intro @fld14n0 (And.intro @fld14n1 (And.intro @bok14 (And.intro @zro14 (And.intro @shp15 (And.intro @zro15 (And.intro @shp16 (And.intro @zro16 (And.intro @shp17 (And.intro @zro17 (And.intro @shp18 (And.intro @fld18n0 (And.intro @bok18 (And.intro @zro18 (And.intro @shp19 (And.intro @fld19n0 (And.intro @bok19 (And.intro @zro19 (And.intro @shp20 (And.intro @zro20 (And.intro @shp21 (And.intro @zro21 (And.intro @shp22 (And.intro @zro22 (And.intro @slc22 (And.intro @shp23 (And.intro @zro23 (And.intro @slc23 (And.intro @shp26 (And.intro @zro26 (And.intro @shp27 (And.intro @zro27 (And.intro @shp30 (And.intro @zro30 (And.intro @shp33 (And.intro @zro33 (And.intro @slc33 (And.intro @shp35 (And.intro @fld35n0 (And.intro @fld35n1 (And.intro @fld35n2 (And.intro @fld35n3 (And.intro @fld35n4 (And.intro @fld35n5 (And.intro @bok35 (And.intro @sih35 (And.intro @egt35 (And.intro @zro35 (And.intro @shp36 (And.intro @fld36n0 (And.intro @fld36n1 (And.intro @fld36n2 (And.intro @fld36n3 (And.intro @fld36n4 (And.intro @fld36n5 (And.intro @bok36 (And.intro @sih36 (And.intro @egt36 (And.intro @zro36 (And.intro @shp45 (And.intro @zro45 (@slc45)))))))))))))))))))))))))))))))))))))))))))))))))))))))))))))))))))))))))))))))))))))))))))))))))))) := And.intro @shp2 (And.intro @zro2 (And.intro @shp3 (And.intro @zro3 (And.intro @shp4 (And.intro @zro4 (And.intro @shp5 (And.intro @zro5 (And.intro @shp6 (And.intro @zro6 (And.intro @shp7 (And.intro @fld7n0 (And.intro @fld7n1 (And.intro @fld7n2 (And.intro @fld7n3 (And.intro @bok7 (And.intro @zro7 (And.intro @shp8 (And.intro @fld8n0 (And.intro @fld8n1 (And.intro @fld8n2 (And.intro @fld8n3 (And.intro @bok8 (And.intro @zro8 (And.intro @shp9 (And.intro @zro9 (And.intro @shp10 (And.intro @zro10 (And.intro @shp11 (And.intro @zro11 (And.intro @shp12 (And.intro @zro12 (And.intro @shp13 (And.intro @fld13n0 (And.intro @fld13n1 (And.intro @bok13 (And.intro @zro13 (And.intro @shp14 (And.intro @fld14n0 (And.intro @fld14n1 (And.intro @bok14 (And.intro @zro14 (And.intro @shp15 (And.intro @zro15 (And.intro @shp16 (And.intro @zro16 (And.intro @shp17 (And.intro @zro17 (And.intro @shp18 (And.intro @fld18n0 (And.intro @bok18 (And.intro @zro18 (And.intro @shp19 (And.intro @fld19n0 (And.intro @bok19 (And.intro @zro19 (And.intro @shp20 (And.intro @zro20 (And.intro @shp21 (And.intro @zro21 (And.intro @shp22 (And.intro @zro22 (And.intro @slc22 (And.intro @shp23 (And.intro @zro23 (And.intro @slc23 (And.intro @shp26 (And.intro @zro26 (And.intro @shp27 (And.intro @zro27 (And.intro @shp30 (And.intro @zro30 (And.intro @shp33 (And.intro @zro33 (And.intro @slc33 (And.intro @shp35 (And.intro @fld35n0 (And.intro @fld35n1 (And.intro @fld35n2 (And.intro @fld35n3 (And.intro @fld35n4 (And.intro @fld35n5 (And.intro @bok35 (And.intro @sih35 (And.intro @egt35 (And.intro @zro35 (And.intro @shp36 (And.intro @fld36n0 (And.intro @fld36n1 (And.intro @fld36n2 (And.intro @fld36n3 (And.intro @fld36n4 (And.intro @fld36n5 (And.intro @bok36 (And.intro @sih36 (And.intro @egt36 (And.intro @zro36 (And.intro @shp45 (And.intro @zro45 (@slc45)))))))))))))))))))))))))))))))))))))))))))))))))))))))))))))))))))))))))))))))))))))))))))))))))))
theorem tyS1 : type_of% (And.intro @shp47 (And.intro @zro47 (And.intro @slc47 (And.intro @shp49 (And.intro @zro49 (And.intro @shp50 (And.intro @zro50 (And.intro @slc50 (And.intro @shp51 (And.intro @fld51n0 (And.intro @fld51n1 (And.intro @fld51n2 (And.intro @fld51n3 (And.intro @bok51 (And.intro @sih51 (And.intro @egt51 (And.intro @zro51 (And.intro @shp52 (And.intro @fld52n0 (And.intro @fld52n1 (And.intro @fld52n2 (And.intro @fld52n3 (And.intro @bok52 (And.intro @sih52 (And.intro @egt52 (And.intro @zro52 (And.intro @shp53 (And.intro @bok53 (And.intro @zro53 (And.intro @shp54 (And.intro @bok54 (And.intro @zro54 (And.intro @shp55 (And.intro @bok55 (And.intro @zro55 (And.intro @shp56 (And.intro @bok56 (And.intro @zro56 (And.intro @shp57 (And.intro @bok57 (And.intro @zro57 (And.intro @shp58 (And.intro @fld58n0 (And.intro @fld58n1 (And.intro @fld58n2 (And.intro @fld58n3 (And.intro @fld58n4 (And.intro @bok58 (And.intro @sih58 (And.intro @egt58 (And.intro @zro58 (And.intro @shp59 (And.intro @fld59n0 (And.intro @fld59n1 (And.intro @fld59n2 (And.intro @fld59n3 (And.intro @fld59n4 (And.intro @bok59 (And.intro @sih59 (And.intro @egt59 (And.intro @zro59 (And.intro @shp60 (And.intro @zro60 (And.intro @slc60 (And.intro @shp63 (And.intro @fld63n0 (And.intro @fld63n1 (And.intro @fld63n2 (And.intro @fld63n3 (And.intro @fld63n4 (And.intro @bok63 (And.intro @sih63 (And.intro @egt63 (And.intro @zro63 (And.intro @shp64 (And.intro @fld64n0 (And.intro @fld64n1 (And.intro @fld64n2 (And.intro @fld64n3 (And.intro @fld64n4 (And.intro @bok64 (And.intro @sih64 (And.intro @egt64 (And.intro @zro64 (And.intro @shp67 (And.intro @zro67 (And.intro @shp68 (And.intro @zro68 (And.intro @shp69 (And.intro @zro69 (And.intro @shp70 (And.intro @zro70 (And.intro @slc70 (And.intro @shp71 (And.intro @fld71n0 (And.intro @fld71n1 (And.intro @fld71n2 (And.intro @fld71n3 (And.intro @bok71 (@sih71)))))))))))))))))))))))))))))))))))))))))))))))))))))))))))))))))))))))))))))))))))))))))))))))))))) := And.intro @shp47 (And.intro @zro47 (And.intro @slc47 (And.intro @shp49 (And.intro @zro49 (And.intro @shp50 (And.intro @zro50 (And.intro @slc50 (And.intro @shp51 (And.intro @fld51n0 (And.intro @fld51n1 (And.intro @fld51n2 (And.intro @fld51n3 (And.intro @bok51 (And.intro @sih51 (And.intro @egt51 (And.intro @zro51 (And.intro @shp52 (And.intro @fld52n0 (And.intro @fld52n1 (And.intro @fld52n2 (And.intro @fld52n3 (And.intro @bok52 (And.intro @sih52 (And.intro @egt52 (And.intro @zro52 (And.intro @shp53 (And.intro @bok53 (And.intro @zro53 (And.intro @shp54 (And.intro @bok54 (And.intro @zro54 (And.intro @shp55 (And.intro @bok55 (And.intro @zro55 (And.intro @shp56 (And.intro @bok56 (And.intro @zro56 (And.intro @shp57 (And.intro @bok57 (And.intro @zro57 (And.intro @shp58 (And.intro @fld58n0 (And.intro @fld58n1 (And.intro @fld58n2 (And.intro @fld58n3 (And.intro @fld58n4 (And.intro @bok58 (And.intro @sih58 (And.intro @egt58 (And.intro @zro58 (And.intro @shp59 (And.intro @fld59n0 (And.intro @fld59n1 (And.intro @fld59n2 (And.intro @fld59n3 (And.intro @fld59n4 (And.intro @bok59 (And.intro @sih59 (And.intro @egt59 (And.intro @zro59 (And.intro @shp60 (And.intro @zro60 (And.intro @slc60 (And.intro @shp63 (And.intro @fld63n0 (And.intro @fld63n1 (And.intro @fld63n2 (And.intro @fld63n3 (And.intro @fld63n4 (And.intro @bok63 (And.intro @sih63 (And.intro @egt63 (And.intro @zro63 (And.intro @shp64 (And.intro @fld64n0 (And.intro @fld64n1 (And.intro @fld64n2 (And.intro @fld64n3 (And.intro @fld64n4 (And.intro @bok64 (And.intro @sih64 (And.intro @egt64 (And.intro @zro64 (And.intro @shp67 (And.intro @zro67 (And.intro @shp68 (And.intro @zro68 (And.intro @shp69 (And.intro @zro69 (And.intro @shp70 (And.intro @zro70 (And.intro @slc70 (And.intro @shp71 (And.intro @fld71n0 (And.intro @fld71n1 (And.intro @fld71n2 (And.intro @fld71n3 (And.intro @bok71 (@sih71)))))))))))))))))))))))))))))))))))))))))))))))))))))))))))))))))))))))))))))))))))))))))))))))))))
theorem tyS2 : type_of% (And.intro @egt71 (And.intro @zro71 (And.intro @shp72 (And.intro @fld72n0 (And.intro @fld72n1 (And.intro @fld72n2 (And.intro @fld72n3 (And.intro @bok72 (And.intro @sih72 (And.intro @egt72 (And.intro @zro72 (And.intro @shp76 (And.intro @fld76n0 (And.intro @fld76n1 (And.intro @fld76n2 (And.intro @fld76n3 (And.intro @bok76 (And.intro @sih76 (And.intro @egt76 (And.intro @zro76 (And.intro @shp77 (And.intro @zro77 (And.intro @slc77 (And.intro @shp78 (And.intro @fld78n0 (And.intro @fld78n1 (And.intro @bok78 (And.intro @sih78 (And.intro @egt78 (And.intro @zro78 (And.intro @shp79 (And.intro @fld79n0 (And.intro @fld79n1 (And.intro @bok79 (And.intro @sih79 (And.intro @egt79 (And.intro @zro79 (And.intro @shp82 (And.intro @zro82 (And.intro @shp84 (And.intro @fld84n0 (And.intro @fld84n1 (And.intro @fld84n2 (And.intro @fld84n3 (And.intro @bok84 (And.intro @sih84 (And.intro @egt84 (And.intro @zro84 (And.intro @shp85 (And.intro @fld85n0 (And.intro @fld85n1 (And.intro @fld85n2 (And.intro @fld85n3 (And.intro @bok85 (And.intro @sih85 (And.intro @egt85 (And.intro @zro85 (And.intro @shp89 (And.intro @fld89n0 (And.intro @fld89n1 (And.intro @fld89n2 (And.intro @fld89n3 (And.intro @fld89n4 (And.intro @bok89 (And.intro @sih89 (And.intro @egt89 (And.intro @zro89 (And.intro @shp90 (And.intro @fld90n0 (And.intro @fld90n1 (And.intro @fld90n2 (And.intro @fld90n3 (And.intro @fld90n4 (And.intro @bok90 (And.intro @sih90 (And.intro @egt90 (And.intro @zro90 (And.intro @shp91 (And.intro @fld91n0 (And.intro @fld91n1 (And.intro @fld91n2 (And.intro @fld91n3 (And.intro @fld91n4 (And.intro @bok91 (And.intro @sih91 (And.intro @egt91 (And.intro @zro91 (And.intro @shp103 (And.intro @zro103 (And.intro @shp106 (And.intro @fld106n0 (And.intro @fld106n1 (And.intro @fld106n2 (And.intro @fld106n3 (And.intro @bok106 (And.intro @zro106 (And.intro @shp107 (And.intro @fld107n0 (And.intro @fld107n1 (@fld107n2)))))))))))))))))))))))))))))))))))))))))))))))))))))))))))))))))))))))))))))))))))))))))))))))))))) := And.intro @egt71 (And.intro @zro71 (And.intro @shp72 (And.intro @fld72n0 (And.intro @fld72n1 (And.intro @fld72n2 (And.intro @fld72n3 (And.intro @bok72 (And.intro @sih72 (And.intro @egt72 (And.intro @zro72 (And.intro @shp76 (And.intro @fld76n0 (And.intro @fld76n1 (And.intro @fld76n2 (And.intro @fld76n3 (And.intro @bok76 (And.intro @sih76 (And.intro @egt76 (And.intro @zro76 (And.intro @shp77 (And.intro @zro77 (And.intro @slc77 (And.intro @shp78 (And.intro @fld78n0 (And.intro @fld78n1 (And.intro @bok78 (And.intro @sih78 (And.intro @egt78 (And.intro @zro78 (And.intro @shp79 (And.intro @fld79n0 (And.intro @fld79n1 (And.intro @bok79 (And.intro @sih79 (And.intro @egt79 (And.intro @zro79 (And.intro @shp82 (And.intro @zro82 (And.intro @shp84 (And.intro @fld84n0 (And.intro @fld84n1 (And.intro @fld84n2 (And.intro @fld84n3 (And.intro @bok84 (And.intro @sih84 (And.intro @egt84 (And.intro @zro84 (And.intro @shp85 (And.intro @fld85n0 (And.intro @fld85n1 (And.intro @fld85n2 (And.intro @fld85n3 (And.intro @bok85 (And.intro @sih85 (And.intro @egt85 (And.intro @zro85 (And.intro @shp89 (And.intro @fld89n0 (And.intro @fld89n1 (And.intro @fld89n2 (And.intro @fld89n3 (And.intro @fld89n4 (And.intro @bok89 (And.intro @sih89 (And.intro @egt89 (And.intro @zro89 (And.intro @shp90 (And.intro @fld90n0 (And.intro @fld90n1 (And.intro @fld90n2 (And.intro @fld90n3 (And.intro @fld90n4 (And.intro @bok90 (And.intro @sih90 (And.intro @egt90 (And.intro @zro90 (And.intro @shp91 (And.intro @fld91n0 (And.intro @fld91n1 (And.intro @fld91n2 (And.intro @fld91n3 (And.intro @fld91n4 (And.intro @bok91 (And.intro @sih91 (And.intro @egt91 (And.intro @zro91 (And.intro @shp103 (And.intro @zro103 (And.intro @shp106 (And.intro @fld106n0 (And.intro @fld106n1 (And.intro @fld106n2 (And.intro @fld106n3 (And.intro @bok106 (And.intro @zro106 (And.intro @shp107 (And.intro @fld107n0 (And.intro @fld107n1 (@fld107n2)))))))))))))))))))))))))))))))))))))))))))))))))))))))))))))))))))))))))))))))))))))))))))))))))))
theorem tyS3 : type_of% (And.intro @fld107n3 (And.intro @bok107 (And.intro @zro107 (And.intro @shp108 (And.intro @bok108 (And.intro @zro108 (And.intro @shp109 (And.intro @fld109n0 (And.intro @bok109 (And.intro @zro109 (And.intro @shp110 (And.intro @fld110n0 (And.intro @bok110 (And.intro @zro110 (And.intro @shp112 (And.intro @zro112 (And.intro @shp113 (And.intro @zro113 (And.intro @shp114 (And.intro @zro114 (And.intro @shp116 (And.intro @zro116 (And.intro @shp117 (And.intro @zro117 (And.intro @shp118 (And.intro @zro118 (And.intro @shp119 (And.intro @fld119n0 (And.intro @fld119n1 (And.intro @fld119n2 (And.intro @fld119n3 (And.intro @fld119n4 (And.intro @fld119n5 (And.intro @fld119n6 (And.intro @fld119n7 (And.intro @fld119n8 (And.intro @fld119n9 (And.intro @fld119n10 (And.intro @bok119 (And.intro @zro119 (And.intro @shp120 (And.intro @fld120n0 (And.intro @fld120n1 (And.intro @fld120n2 (And.intro @fld120n3 (And.intro @fld120n4 (And.intro @fld120n5 (And.intro @fld120n6 (And.intro @fld120n7 (And.intro @fld120n8 (And.intro @fld120n9 (And.intro @fld120n10 (And.intro @bok120 (And.intro @zro120 (And.intro @shp121 (And.intro @zro121 (And.intro @cal2 (And.intro @cal3 (And.intro @cal4 (And.intro @cal5 (And.intro @cal6 (And.intro @cal7 (And.intro @cal8 (And.intro @cal9 (And.intro @cal10 (And.intro @cal11 (And.intro @cal12 (And.intro @cal13 (And.intro @cal14 (And.intro @cal15 (And.intro @cal16 (And.intro @cal17 (And.intro @cal18 (And.intro @cal19 (And.intro @cal20 (And.intro @cal21 (And.intro @cal22 (And.intro @cal23 (And.intro @cal24 (And.intro @cal25 (And.intro @cal26 (And.intro @cal27 (And.intro @cal28 (And.intro @cal29 (And.intro @cal30 (And.intro @cal31 (And.intro @cal32 (And.intro @cal33 (And.intro @cal34 (And.intro @cal35 (And.intro @cal36 (And.intro @cal37 (And.intro @cal38 (And.intro @cal39 (And.intro @cal40 (And.intro @cal41 (And.intro @cal42 (And.intro @cal43 (And.intro @cal44 (@cal45)))))))))))))))))))))))))))))))))))))))))))))))))))))))))))))))))))))))))))))))))))))))))))))))))))) := And.intro @fld107n3 (And.intro @bok107 (And.intro @zro107 (And.intro @shp108 (And.intro @bok108 (And.intro @zro108 (And.intro @shp109 (And.intro @fld109n0 (And.intro @bok109 (And.intro @zro109 (And.intro @shp110 (And.intro @fld110n0 (And.intro @bok110 (And.intro @zro110 (And.intro @shp112 (And.intro @zro112 (And.intro @shp113 (And.intro @zro113 (And.intro @shp114 (And.intro @zro114 (And.intro @shp116 (And.intro @zro116 (And.intro @shp117 (And.intro @zro117 (And.intro @shp118 (And.intro @zro118 (And.intro @shp119 (And.intro @fld119n0 (And.intro @fld119n1 (And.intro @fld119n2 (And.intro @fld119n3 (And.intro @fld119n4 (And.intro @fld119n5 (And.intro @fld119n6 (And.intro @fld119n7 (And.intro @fld119n8 (And.intro @fld119n9 (And.intro @fld119n10 (And.intro @bok119 (And.intro @zro119 (And.intro @shp120 (And.intro @fld120n0 (And.intro @fld120n1 (And.intro @fld120n2 (And.intro @fld120n3 (And.intro @fld120n4 (And.intro @fld120n5 (And.intro @fld120n6 (And.intro @fld120n7 (And.intro @fld120n8 (And.intro @fld120n9 (And.intro @fld120n10 (And.intro @bok120 (And.intro @zro120 (And.intro @shp121 (And.intro @zro121 (And.intro @cal2 (And.intro @cal3 (And.intro @cal4 (And.intro @cal5 (And.intro @cal6 (And.intro @cal7 (And.intro @cal8 (And.intro @cal9 (And.intro @cal10 (And.intro @cal11 (And.intro @cal12 (And.intro @cal13 (And.intro @cal14 (And.intro @cal15 (And.intro @cal16 (And.intro @cal17 (And.intro @cal18 (And.intro @cal19 (And.intro @cal20 (And.intro @cal21 (And.intro @cal22 (And.intro @cal23 (And.intro @cal24 (And.intro @cal25 (And.intro @cal26 (And.intro @cal27 (And.intro @cal28 (And.intro @cal29 (And.intro @cal30 (And.intro @cal31 (And.intro @cal32 (And.intro @cal33 (And.intro @cal34 (And.intro @cal35 (And.intro @cal36 (And.intro @cal37 (And.intro @cal38 (And.intro @cal39 (And.intro @cal40 (And.intro @cal41 (And.intro @cal42 (And.intro @cal43 (And.intro @cal44 (@cal45)))))))))))))))))))))))))))))))))))))))))))))))))))))))))))))))))))))))))))))))))))))))))))))))))))
theorem tyS4 : type_of% (And.intro @cal46 (And.intro @cal47 (And.intro @cal48 (And.intro @cal49 (And.intro @cal50 (And.intro @cal51 (And.intro @cal52 (And.intro @cal53 (And.intro @cal54 (And.intro @cal55 (And.intro @cal56 (And.intro @cal58 (And.intro @cal0 (And.intro @cal1 (And.intro @cal57 (And.intro @cal59 (And.intro @cal60 (And.intro @cal61 (And.intro @cal62 (And.intro @cal63 (And.intro @cal64 (And.intro @cal65 (And.intro @cal66 (And.intro @cal67 (And.intro @cal68 (And.intro @cal69 (And.intro @cal70 (And.intro @cal71 (And.intro @cal72 (And.intro @cal73 (And.intro @cal74 (And.intro @cal75 (And.intro @Try.underlying2 (And.intro @Try.underlying3 (And.intro @Try.underlying4 (And.intro @Try.underlying5 (And.intro @Try.underlying6 (And.intro @Try.underlying7 (And.intro @Try.underlying8 (And.intro @Try.underlying9 (And.intro @Try.underlying10 (And.intro @Try.underlying11 (And.intro @Try.underlying12 (And.intro @Try.underlying13 (And.intro @Try.underlying14 (And.intro @Try.underlying15 (And.intro @Try.underlying16 (And.intro @Try.underlying17 (And.intro @Try.underlying18 (And.intro @Try.underlying19 (And.intro @Try.underlying21 (And.intro @Try.underlying22 (And.intro @Try.underlying23 (And.intro @Try.underlying26 (And.intro @Try.underlying27 (And.intro @Try.underlying30 (And.intro @Try.underlying33 (And.intro @Try.underlying35 (And.intro @Try.underlying36 (And.intro @Try.underlying45 (And.intro @Try.underlying47 (And.intro @Try.underlying49 (And.intro @Try.underlying50 (And.intro @Try.underlying51 (And.intro @Try.underlying52 (And.intro @Try.underlying53 (And.intro @Try.underlying54 (And.intro @Try.underlying55 (And.intro @Try.underlying56 (And.intro @Try.underlying57 (And.intro @Try.underlying58 (And.intro @Try.underlying59 (And.intro @Try.underlying60 (And.intro @Try.underlying63 (And.intro @Try.underlying64 (And.intro @Try.underlying67 (And.intro @Try.underlying68 (And.intro @Try.underlying69 (And.intro @Try.underlying70 (And.intro @Try.underlying71 (And.intro @Try.underlying72 (And.intro @Try.underlying76 (And.intro @Try.underlying77 (And.intro @Try.underlying78 (And.intro @Try.underlying79 (And.intro @Try.underlying82 (And.intro @Try.underlying84 (And.intro @Try.underlying85 (And.intro @Try.underlying89 (And.intro @Try.underlying90 (And.intro @Try.underlying91 (And.intro @Try.underlying103 (And.intro @Try.underlying106 (And.intro @Try.underlying107 (And.intro @Try.underlying108 (And.intro @Try.underlying109 (And.intro @Try.underlying110 (And.intro @Try.underlying112 (And.intro @Try.underlying113 (@Try.underlying114)))))))))))))))))))))))))))))))))))))))))))))))))))))))))))))))))))))))))))))))))))))))))))))))))))) := And.intro @cal46 (And.intro @cal47 (And.intro @cal48 (And.intro @cal49 (And.intro @cal50 (And.intro @cal51 (And.intro @cal52 (And.intro @cal53 (And.intro @cal54 (And.intro @cal55 (And.intro @cal56 (And.intro @cal58 (And.intro @cal0 (And.intro @cal1 (And.intro @cal57 (And.intro @cal59 (And.intro @cal60 (And.intro @cal61 (And.intro @cal62 (And.intro @cal63 (And.intro @cal64 (And.intro @cal65 (And.intro @cal66 (And.intro @cal67 (And.intro @cal68 (And.intro @cal69 (And.intro @cal70 (And.intro @cal71 (And.intro @cal72 (And.intro @cal73 (And.intro @cal74 (And.intro @cal75 (And.intro @Try.underlying2 (And.intro @Try.underlying3 (And.intro @Try.underlying4 (And.intro @Try.underlying5 (And.intro @Try.underlying6 (And.intro @Try.underlying7 (And.intro @Try.underlying8 (And.intro @Try.underlying9 (And.intro @Try.underlying10 (And.intro @Try.underlying11 (And.intro @Try.underlying12 (And.intro @Try.underlying13 (And.intro @Try.underlying14 (And.intro @Try.underlying15 (And.intro @Try.underlying16 (And.intro @Try.underlying17 (And.intro @Try.underlying18 (And.intro @Try.underlying19 (And.intro @Try.underlying21 (And.intro @Try.underlying22 (And.intro @Try.underlying23 (And.intro @Try.underlying26 (And.intro @Try.underlying27 (And.intro @Try.underlying30 (And.intro @Try.underlying33 (And.intro @Try.underlying35 (And.intro @Try.underlying36 (And.intro @Try.underlying45 (And.intro @Try.underlying47 (And.intro @Try.underlying49 (And.intro @Try.underlying50 (And.intro @Try.underlying51 (And.intro @Try.underlying52 (And.intro @Try.underlying53 (And.intro @Try.underlying54 (And.intro @Try.underlying55 (And.intro @Try.underlying56 (And.intro @Try.underlying57 (And.intro @Try.underlying58 (And.intro @Try.underlying59 (And.intro @Try.underlying60 (And.intro @Try.underlying63 (And.intro @Try.underlying64 (And.intro @Try.underlying67 (And.intro @Try.underlying68 (And.intro @Try.underlying69 (And.intro @Try.underlying70 (And.intro @Try.underlying71 (And.intro @Try.underlying72 (And.intro @Try.underlying76 (And.intro @Try.underlying77 (And.intro @Try.underlying78 (And.intro @Try.underlying79 (And.intro @Try.underlying82 (And.intro @Try.underlying84 (And.intro @Try.underlying85 (And.intro @Try.underlying89 (And.intro @Try.underlying90 (And.intro @Try.underlying91 (And.intro @Try.underlying103 (And.intro @Try.underlying106 (And.intro @Try.underlying107 (And.intro @Try.underlying108 (And.intro @Try.underlying109 (And.intro @Try.underlying110 (And.intro @Try.underlying112 (And.intro @Try.underlying113 (@Try.underlying114)))))))))))))))))))))))))))))))))))))))))))))))))))))))))))))))))))))))))))))))))))))))))))))))))))
theorem tyS5 : type_of% (And.intro @Try.underlying116 (And.intro @Try.underlying117 (And.intro @Try.underlying118 (And.intro @Try.underlying119 (And.intro @Try.underlying120 (And.intro @Try.underlying121 (And.intro @Try.results2 (And.intro @Try.results3 (And.intro @Try.results4 (And.intro @Try.results5 (And.intro @Try.results6 (And.intro @Try.results7 (And.intro @Try.results8 (And.intro @Try.results9 (And.intro @Try.results10 (And.intro @Try.results11 (And.intro @Try.results12 (And.intro @Try.results13 (And.intro @Try.results14 (And.intro @Try.results15 (And.intro @Try.results16 (And.intro @Try.results17 (And.intro @Try.results18 (And.intro @Try.results19 (And.intro @Try.results20 (And.intro @Try.results21 (And.intro @Try.results22 (And.intro @Try.results23 (And.intro @Try.results24 (And.intro @Try.results25 (And.intro @Try.results26 (And.intro @Try.results27 (And.intro @Try.results28 (And.intro @Try.results29 (And.intro @Try.results30 (And.intro @Try.results31 (And.intro @Try.results32 (And.intro @Try.results33 (And.intro @Try.results34 (And.intro @Try.results35 (And.intro @Try.results36 (And.intro @Try.results37 (And.intro @Try.results38 (And.intro @Try.results39 (And.intro @Try.results40 (And.intro @Try.results41 (And.intro @Try.results42 (And.intro @Try.results43 (And.intro @Try.results44 (And.intro @Try.results45 (And.intro @Try.results46 (And.intro @Try.results47 (And.intro @Try.results48 (And.intro @Try.results49 (And.intro @Try.results50 (And.intro @Try.results51 (And.intro @Try.results52 (And.intro @Try.results53 (And.intro @Try.results54 (And.intro @Try.results55 (And.intro @Try.results56 (@Try.results58)))))))))))))))))))))))))))))))))))))))))))))))))))))))))))))) := And.intro @Try.underlying116 (And.intro @Try.underlying117 (And.intro @Try.underlying118 (And.intro @Try.underlying119 (And.intro @Try.underlying120 (And.intro @Try.underlying121 (And.intro @Try.results2 (And.intro @Try.results3 (And.intro @Try.results4 (And.intro @Try.results5 (And.intro @Try.results6 (And.intro @Try.results7 (And.intro @Try.results8 (And.intro @Try.results9 (And.intro @Try.results10 (And.intro @Try.results11 (And.intro @Try.results12 (And.intro @Try.results13 (And.intro @Try.results14 (And.intro @Try.results15 (And.intro @Try.results16 (And.intro @Try.results17 (And.intro @Try.results18 (And.intro @Try.results19 (And.intro @Try.results20 (And.intro @Try.results21 (And.intro @Try.results22 (And.intro @Try.results23 (And.intro @Try.results24 (And.intro @Try.results25 (And.intro @Try.results26 (And.intro @Try.results27 (And.intro @Try.results28 (And.intro @Try.results29 (And.intro @Try.results30 (And.intro @Try.results31 (And.intro @Try.results32 (And.intro @Try.results33 (And.intro @Try.results34 (And.intro @Try.results35 (And.intro @Try.results36 (And.intro @Try.results37 (And.intro @Try.results38 (And.intro @Try.results39 (And.intro @Try.results40 (And.intro @Try.results41 (And.intro @Try.results42 (And.intro @Try.results43 (And.intro @Try.results44 (And.intro @Try.results45 (And.intro @Try.results46 (And.intro @Try.results47 (And.intro @Try.results48 (And.intro @Try.results49 (And.intro @Try.results50 (And.intro @Try.results51 (And.intro @Try.results52 (And.intro @Try.results53 (And.intro @Try.results54 (And.intro @Try.results55 (And.intro @Try.results56 (@Try.results58)))))))))))))))))))))))))))))))))))))))))))))))))))))))))))))
theorem tyS : type_of% (And.intro @tyS0 (And.intro @tyS1 (And.intro @tyS2 (And.intro @tyS3 (And.intro @tyS4 (@tyS5)))))) := And.intro @tyS0 (And.intro @tyS1 (And.intro @tyS2 (And.intro @tyS3 (And.intro @tyS4 (@tyS5)))))
end Go.Proofs.Ytmjkjpjjckcihaa
