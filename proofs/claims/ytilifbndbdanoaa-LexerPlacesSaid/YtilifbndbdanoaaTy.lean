/-
Closed facts on the types and functions of this translation.
Conditions: none.
-/
import Derived.Test.YtilifbndbdanoaaProg
import Derived.Test.YtilifbndbdanoaaVmEq
import Derived.KernelRfl
namespace Go.Proofs.Ytilifbndbdanoaa
open Go.Vm
set_option maxRecDepth 100000
theorem shp2 : shp Try.prog 2 = some (false, 1) := by kernel_rfl
theorem zro2 : zro Try.prog 2 = some (.int .i64 0) := by kernel_rfl
theorem shp3 : shp Try.prog 3 = some (false, 1) := by kernel_rfl
theorem zro3 : zro Try.prog 3 = some (.int .i64 0) := by kernel_rfl
theorem shp4 : shp Try.prog 4 = some (false, 1) := by kernel_rfl
theorem zro4 : zro Try.prog 4 = some (.bool false) := by kernel_rfl
theorem shp5 : shp Try.prog 5 = some (false, 1) := by kernel_rfl
theorem zro5 : zro Try.prog 5 = some (.int .u8 0) := by kernel_rfl
theorem shp6 : shp Try.prog 6 = some (false, 1) := by kernel_rfl
theorem zro6 : zro Try.prog 6 = some (.int .u8 0) := by kernel_rfl
theorem shp7 : shp Try.prog 7 = some (true, 4) := by kernel_rfl
theorem fld7n0 : fld Try.prog 7 0 = some (0, false, 1) := by kernel_rfl
theorem fld7n1 : fld Try.prog 7 1 = some (1, false, 1) := by kernel_rfl
theorem fld7n2 : fld Try.prog 7 2 = some (2, false, 1) := by kernel_rfl
theorem fld7n3 : fld Try.prog 7 3 = some (3, false, 1) := by kernel_rfl
theorem bok7 : bldOk Try.prog 7 = true := by kernel_rfl
theorem zro7 : zro Try.prog 7 = some (.agg #[.int .i64 0, .int .i64 0, .bool false, .int .u8 0]) := by kernel_rfl
theorem shp8 : shp Try.prog 8 = some (true, 4) := by kernel_rfl
theorem fld8n0 : fld Try.prog 8 0 = some (0, false, 1) := by kernel_rfl
theorem fld8n1 : fld Try.prog 8 1 = some (1, false, 1) := by kernel_rfl
theorem fld8n2 : fld Try.prog 8 2 = some (2, false, 1) := by kernel_rfl
theorem fld8n3 : fld Try.prog 8 3 = some (3, false, 1) := by kernel_rfl
theorem bok8 : bldOk Try.prog 8 = true := by kernel_rfl
theorem zro8 : zro Try.prog 8 = some (.agg #[.int .i64 0, .int .i64 0, .bool false, .int .u8 0]) := by kernel_rfl
theorem shp9 : shp Try.prog 9 = some (false, 1) := by kernel_rfl
theorem zro9 : zro Try.prog 9 = some (.string ⟨#[]⟩) := by kernel_rfl
theorem shp10 : shp Try.prog 10 = some (false, 1) := by kernel_rfl
theorem zro10 : zro Try.prog 10 = some (.string ⟨#[]⟩) := by kernel_rfl
theorem shp11 : shp Try.prog 11 = some (false, 1) := by kernel_rfl
theorem zro11 : zro Try.prog 11 = some (.string ⟨#[]⟩) := by kernel_rfl
theorem shp12 : shp Try.prog 12 = some (false, 1) := by kernel_rfl
theorem zro12 : zro Try.prog 12 = some (.int .u64 0) := by kernel_rfl
theorem shp13 : shp Try.prog 13 = some (true, 2) := by kernel_rfl
theorem fld13n0 : fld Try.prog 13 0 = some (0, false, 1) := by kernel_rfl
theorem fld13n1 : fld Try.prog 13 1 = some (1, false, 1) := by kernel_rfl
theorem bok13 : bldOk Try.prog 13 = true := by kernel_rfl
theorem zro13 : zro Try.prog 13 = some (.agg #[.string ⟨#[]⟩, .int .u64 0]) := by kernel_rfl
theorem shp14 : shp Try.prog 14 = some (true, 2) := by kernel_rfl
theorem fld14n0 : fld Try.prog 14 0 = some (0, false, 1) := by kernel_rfl
theorem fld14n1 : fld Try.prog 14 1 = some (1, false, 1) := by kernel_rfl
theorem bok14 : bldOk Try.prog 14 = true := by kernel_rfl
theorem zro14 : zro Try.prog 14 = some (.agg #[.string ⟨#[]⟩, .int .u64 0]) := by kernel_rfl
theorem shp15 : shp Try.prog 15 = some (false, 1) := by kernel_rfl
theorem zro15 : zro Try.prog 15 = some (.pointer none) := by kernel_rfl
theorem shp16 : shp Try.prog 16 = some (false, 1) := by kernel_rfl
theorem zro16 : zro Try.prog 16 = some (.pointer none) := by kernel_rfl
theorem shp17 : shp Try.prog 17 = some (false, 1) := by kernel_rfl
theorem zro17 : zro Try.prog 17 = some (.pointer none) := by kernel_rfl
theorem shp18 : shp Try.prog 18 = some (true, 1) := by kernel_rfl
theorem fld18n0 : fld Try.prog 18 0 = some (0, false, 1) := by kernel_rfl
theorem bok18 : bldOk Try.prog 18 = true := by kernel_rfl
theorem zro18 : zro Try.prog 18 = some (.agg #[.pointer none]) := by kernel_rfl
theorem shp19 : shp Try.prog 19 = some (true, 1) := by kernel_rfl
theorem fld19n0 : fld Try.prog 19 0 = some (0, false, 1) := by kernel_rfl
theorem bok19 : bldOk Try.prog 19 = true := by kernel_rfl
theorem zro19 : zro Try.prog 19 = some (.agg #[.pointer none]) := by kernel_rfl
theorem shp20 : shp Try.prog 20 = some (false, 1) := by kernel_rfl
theorem zro20 : zro Try.prog 20 = some (.nilIface) := by kernel_rfl
theorem shp21 : shp Try.prog 21 = some (false, 1) := by kernel_rfl
theorem zro21 : zro Try.prog 21 = some (.int .i32 0) := by kernel_rfl
theorem shp23 : shp Try.prog 23 = some (false, 1) := by kernel_rfl
theorem zro23 : zro Try.prog 23 = some (.slice none 0 0) := by kernel_rfl
theorem slc23 : slc Try.prog 23 = some (39, 4, 40) := by kernel_rfl
theorem shp24 : shp Try.prog 24 = some (false, 1) := by kernel_rfl
theorem zro24 : zro Try.prog 24 = some (.int .i64 0) := by kernel_rfl
theorem shp29 : shp Try.prog 29 = some (false, 1) := by kernel_rfl
theorem zro29 : zro Try.prog 29 = some (.slice none 0 0) := by kernel_rfl
theorem slc29 : slc Try.prog 29 = some (37, 2, 24) := by kernel_rfl
theorem shp30 : shp Try.prog 30 = some (false, 1) := by kernel_rfl
theorem zro30 : zro Try.prog 30 = some (.pointer none) := by kernel_rfl
theorem shp33 : shp Try.prog 33 = some (false, 1) := by kernel_rfl
theorem zro33 : zro Try.prog 33 = some (.pointer none) := by kernel_rfl
theorem shp36 : shp Try.prog 36 = some (true, 2) := by kernel_rfl
theorem fld36n0 : fld Try.prog 36 0 = some (0, false, 1) := by kernel_rfl
theorem fld36n1 : fld Try.prog 36 1 = some (1, false, 1) := by kernel_rfl
theorem bok36 : bldOk Try.prog 36 = true := by kernel_rfl
theorem sih36 : Try.prog.stoodInHeld 36 = false := by kernel_rfl
theorem egt36 : Try.prog.eqGuardType Try.prog.depth 36 = false := by kernel_rfl
theorem zro36 : zro Try.prog 36 = some (.agg #[.int .u8 0, .string ⟨#[]⟩]) := by kernel_rfl
theorem shp37 : shp Try.prog 37 = some (true, 2) := by kernel_rfl
theorem fld37n0 : fld Try.prog 37 0 = some (0, false, 1) := by kernel_rfl
theorem fld37n1 : fld Try.prog 37 1 = some (1, false, 1) := by kernel_rfl
theorem bok37 : bldOk Try.prog 37 = true := by kernel_rfl
theorem sih37 : Try.prog.stoodInHeld 37 = false := by kernel_rfl
theorem egt37 : Try.prog.eqGuardType Try.prog.depth 37 = false := by kernel_rfl
theorem zro37 : zro Try.prog 37 = some (.agg #[.int .u8 0, .string ⟨#[]⟩]) := by kernel_rfl
theorem shp38 : shp Try.prog 38 = some (true, 4) := by kernel_rfl
theorem fld38n0 : fld Try.prog 38 0 = some (0, false, 1) := by kernel_rfl
theorem fld38n1 : fld Try.prog 38 1 = some (1, false, 1) := by kernel_rfl
theorem fld38n2 : fld Try.prog 38 2 = some (2, false, 1) := by kernel_rfl
theorem fld38n3 : fld Try.prog 38 3 = some (3, false, 1) := by kernel_rfl
theorem bok38 : bldOk Try.prog 38 = true := by kernel_rfl
theorem sih38 : Try.prog.stoodInHeld 38 = false := by kernel_rfl
theorem egt38 : Try.prog.eqGuardType Try.prog.depth 38 = false := by kernel_rfl
theorem zro38 : zro Try.prog 38 = some (.agg #[.int .i64 0, .string ⟨#[]⟩, .int .i64 0, .int .i64 0]) := by kernel_rfl
theorem shp39 : shp Try.prog 39 = some (true, 4) := by kernel_rfl
theorem fld39n0 : fld Try.prog 39 0 = some (0, false, 1) := by kernel_rfl
theorem fld39n1 : fld Try.prog 39 1 = some (1, false, 1) := by kernel_rfl
theorem fld39n2 : fld Try.prog 39 2 = some (2, false, 1) := by kernel_rfl
theorem fld39n3 : fld Try.prog 39 3 = some (3, false, 1) := by kernel_rfl
theorem bok39 : bldOk Try.prog 39 = true := by kernel_rfl
theorem sih39 : Try.prog.stoodInHeld 39 = false := by kernel_rfl
theorem egt39 : Try.prog.eqGuardType Try.prog.depth 39 = false := by kernel_rfl
theorem zro39 : zro Try.prog 39 = some (.agg #[.int .i64 0, .string ⟨#[]⟩, .int .i64 0, .int .i64 0]) := by kernel_rfl
theorem shp50 : shp Try.prog 50 = some (true, 2) := by kernel_rfl
theorem fld50n0 : fld Try.prog 50 0 = some (0, false, 1) := by kernel_rfl
theorem fld50n1 : fld Try.prog 50 1 = some (1, false, 1) := by kernel_rfl
theorem bok50 : bldOk Try.prog 50 = true := by kernel_rfl
theorem sih50 : Try.prog.stoodInHeld 50 = false := by kernel_rfl
theorem egt50 : Try.prog.eqGuardType Try.prog.depth 50 = false := by kernel_rfl
theorem zro50 : zro Try.prog 50 = some (.agg #[.slice none 0 0, .int .i64 0]) := by kernel_rfl
theorem shp51 : shp Try.prog 51 = some (true, 2) := by kernel_rfl
theorem fld51n0 : fld Try.prog 51 0 = some (0, false, 1) := by kernel_rfl
theorem fld51n1 : fld Try.prog 51 1 = some (1, false, 1) := by kernel_rfl
theorem bok51 : bldOk Try.prog 51 = true := by kernel_rfl
theorem sih51 : Try.prog.stoodInHeld 51 = false := by kernel_rfl
theorem egt51 : Try.prog.eqGuardType Try.prog.depth 51 = false := by kernel_rfl
theorem zro51 : zro Try.prog 51 = some (.agg #[.slice none 0 0, .int .i64 0]) := by kernel_rfl
theorem shp52 : shp Try.prog 52 = some (true, 1) := by kernel_rfl
theorem fld52n0 : fld Try.prog 52 0 = some (0, false, 1) := by kernel_rfl
theorem bok52 : bldOk Try.prog 52 = true := by kernel_rfl
theorem sih52 : Try.prog.stoodInHeld 52 = false := by kernel_rfl
theorem egt52 : Try.prog.eqGuardType Try.prog.depth 52 = false := by kernel_rfl
theorem zro52 : zro Try.prog 52 = some (.agg #[.slice none 0 0]) := by kernel_rfl
theorem shp53 : shp Try.prog 53 = some (true, 1) := by kernel_rfl
theorem fld53n0 : fld Try.prog 53 0 = some (0, false, 1) := by kernel_rfl
theorem bok53 : bldOk Try.prog 53 = true := by kernel_rfl
theorem sih53 : Try.prog.stoodInHeld 53 = false := by kernel_rfl
theorem egt53 : Try.prog.eqGuardType Try.prog.depth 53 = false := by kernel_rfl
theorem zro53 : zro Try.prog 53 = some (.agg #[.slice none 0 0]) := by kernel_rfl
theorem shp55 : shp Try.prog 55 = some (false, 1) := by kernel_rfl
theorem zro55 : zro Try.prog 55 = some (.int .u64 0) := by kernel_rfl
theorem shp58 : shp Try.prog 58 = some (false, 1) := by kernel_rfl
theorem zro58 : zro Try.prog 58 = some (.pointer none) := by kernel_rfl
theorem shp59 : shp Try.prog 59 = some (false, 1) := by kernel_rfl
theorem zro59 : zro Try.prog 59 = some (.slice none 0 0) := by kernel_rfl
theorem slc59 : slc Try.prog 59 = some (5, 1, 1) := by kernel_rfl
theorem shp60 : shp Try.prog 60 = some (true, 2) := by kernel_rfl
theorem fld60n0 : fld Try.prog 60 0 = some (0, false, 1) := by kernel_rfl
theorem fld60n1 : fld Try.prog 60 1 = some (1, false, 1) := by kernel_rfl
theorem bok60 : bldOk Try.prog 60 = true := by kernel_rfl
theorem zro60 : zro Try.prog 60 = some (.agg #[.pointer none, .slice none 0 0]) := by kernel_rfl
theorem shp61 : shp Try.prog 61 = some (true, 2) := by kernel_rfl
theorem fld61n0 : fld Try.prog 61 0 = some (0, false, 1) := by kernel_rfl
theorem fld61n1 : fld Try.prog 61 1 = some (1, false, 1) := by kernel_rfl
theorem bok61 : bldOk Try.prog 61 = true := by kernel_rfl
theorem zro61 : zro Try.prog 61 = some (.agg #[.pointer none, .slice none 0 0]) := by kernel_rfl
theorem shp63 : shp Try.prog 63 = some (false, 1) := by kernel_rfl
theorem zro63 : zro Try.prog 63 = some (.nilIface) := by kernel_rfl
theorem shp64 : shp Try.prog 64 = some (false, 1) := by kernel_rfl
theorem zro64 : zro Try.prog 64 = some (.nilIface) := by kernel_rfl
theorem shp75 : shp Try.prog 75 = some (false, 1) := by kernel_rfl
theorem zro75 : zro Try.prog 75 = some (.int .u32 0) := by kernel_rfl
theorem shp78 : shp Try.prog 78 = some (false, 1) := by kernel_rfl
theorem zro78 : zro Try.prog 78 = some (.int .u64 0) := by kernel_rfl
theorem shp81 : shp Try.prog 81 = some (false, 1) := by kernel_rfl
theorem zro81 : zro Try.prog 81 = some (.pointer none) := by kernel_rfl
theorem shp83 : shp Try.prog 83 = some (false, 1) := by kernel_rfl
theorem zro83 : zro Try.prog 83 = some (.pointer none) := by kernel_rfl
theorem shp89 : shp Try.prog 89 = some (true, 4) := by kernel_rfl
theorem fld89n0 : fld Try.prog 89 0 = some (0, false, 1) := by kernel_rfl
theorem fld89n1 : fld Try.prog 89 1 = some (1, false, 1) := by kernel_rfl
theorem fld89n2 : fld Try.prog 89 2 = some (2, false, 1) := by kernel_rfl
theorem fld89n3 : fld Try.prog 89 3 = some (3, false, 1) := by kernel_rfl
theorem bok89 : bldOk Try.prog 89 = true := by kernel_rfl
theorem zro89 : zro Try.prog 89 = some (.agg #[.pointer none, .pointer none, .pointer none, .string ⟨#[]⟩]) := by kernel_rfl
theorem shp90 : shp Try.prog 90 = some (true, 4) := by kernel_rfl
theorem fld90n0 : fld Try.prog 90 0 = some (0, false, 1) := by kernel_rfl
theorem fld90n1 : fld Try.prog 90 1 = some (1, false, 1) := by kernel_rfl
theorem fld90n2 : fld Try.prog 90 2 = some (2, false, 1) := by kernel_rfl
theorem fld90n3 : fld Try.prog 90 3 = some (3, false, 1) := by kernel_rfl
theorem bok90 : bldOk Try.prog 90 = true := by kernel_rfl
theorem zro90 : zro Try.prog 90 = some (.agg #[.pointer none, .pointer none, .pointer none, .string ⟨#[]⟩]) := by kernel_rfl
theorem shp91 : shp Try.prog 91 = some (true, 0) := by kernel_rfl
theorem bok91 : bldOk Try.prog 91 = false := by kernel_rfl
theorem zro91 : zro Try.prog 91 = some (.agg #[]) := by kernel_rfl
theorem shp92 : shp Try.prog 92 = some (true, 0) := by kernel_rfl
theorem fld92n0 : fld Try.prog 92 0 = some (0, true, 0) := by kernel_rfl
theorem bok92 : bldOk Try.prog 92 = true := by kernel_rfl
theorem zro92 : zro Try.prog 92 = some (.agg #[]) := by kernel_rfl
theorem shp93 : shp Try.prog 93 = some (true, 0) := by kernel_rfl
theorem fld93n0 : fld Try.prog 93 0 = some (0, true, 0) := by kernel_rfl
theorem bok93 : bldOk Try.prog 93 = true := by kernel_rfl
theorem zro93 : zro Try.prog 93 = some (.agg #[]) := by kernel_rfl
theorem shp94 : shp Try.prog 94 = some (false, 1) := by kernel_rfl
theorem zro94 : zro Try.prog 94 = some (.int .u8 0) := by kernel_rfl
theorem shp95 : shp Try.prog 95 = some (false, 1) := by kernel_rfl
theorem zro95 : zro Try.prog 95 = some (.int .u8 0) := by kernel_rfl
theorem shp97 : shp Try.prog 97 = some (false, 1) := by kernel_rfl
theorem zro97 : zro Try.prog 97 = some (.int .i32 0) := by kernel_rfl
theorem shp98 : shp Try.prog 98 = some (false, 1) := by kernel_rfl
theorem zro98 : zro Try.prog 98 = some (.int .i32 0) := by kernel_rfl
theorem shp99 : shp Try.prog 99 = some (true, 11) := by kernel_rfl
theorem fld99n0 : fld Try.prog 99 0 = some (0, false, 1) := by kernel_rfl
theorem fld99n1 : fld Try.prog 99 1 = some (1, false, 1) := by kernel_rfl
theorem fld99n2 : fld Try.prog 99 2 = some (2, false, 1) := by kernel_rfl
theorem fld99n3 : fld Try.prog 99 3 = some (3, false, 1) := by kernel_rfl
theorem fld99n4 : fld Try.prog 99 4 = some (4, false, 1) := by kernel_rfl
theorem fld99n5 : fld Try.prog 99 5 = some (5, false, 1) := by kernel_rfl
theorem fld99n6 : fld Try.prog 99 6 = some (6, false, 1) := by kernel_rfl
theorem fld99n7 : fld Try.prog 99 7 = some (7, false, 1) := by kernel_rfl
theorem fld99n8 : fld Try.prog 99 8 = some (8, false, 1) := by kernel_rfl
theorem fld99n9 : fld Try.prog 99 9 = some (9, false, 1) := by kernel_rfl
theorem fld99n10 : fld Try.prog 99 10 = some (10, false, 1) := by kernel_rfl
theorem bok99 : bldOk Try.prog 99 = true := by kernel_rfl
theorem zro99 : zro Try.prog 99 = some (.agg #[.int .u64 0, .int .u64 0, .int .u32 0, .int .u8 0, .int .u8 0, .int .u8 0, .int .u8 0, .nilFunc, .pointer none, .int .i32 0, .int .i32 0]) := by kernel_rfl
theorem shp100 : shp Try.prog 100 = some (true, 11) := by kernel_rfl
theorem fld100n0 : fld Try.prog 100 0 = some (0, false, 1) := by kernel_rfl
theorem fld100n1 : fld Try.prog 100 1 = some (1, false, 1) := by kernel_rfl
theorem fld100n2 : fld Try.prog 100 2 = some (2, false, 1) := by kernel_rfl
theorem fld100n3 : fld Try.prog 100 3 = some (3, false, 1) := by kernel_rfl
theorem fld100n4 : fld Try.prog 100 4 = some (4, false, 1) := by kernel_rfl
theorem fld100n5 : fld Try.prog 100 5 = some (5, false, 1) := by kernel_rfl
theorem fld100n6 : fld Try.prog 100 6 = some (6, false, 1) := by kernel_rfl
theorem fld100n7 : fld Try.prog 100 7 = some (7, false, 1) := by kernel_rfl
theorem fld100n8 : fld Try.prog 100 8 = some (8, false, 1) := by kernel_rfl
theorem fld100n9 : fld Try.prog 100 9 = some (9, false, 1) := by kernel_rfl
theorem fld100n10 : fld Try.prog 100 10 = some (10, false, 1) := by kernel_rfl
theorem bok100 : bldOk Try.prog 100 = true := by kernel_rfl
theorem zro100 : zro Try.prog 100 = some (.agg #[.int .u64 0, .int .u64 0, .int .u32 0, .int .u8 0, .int .u8 0, .int .u8 0, .int .u8 0, .nilFunc, .pointer none, .int .i32 0, .int .i32 0]) := by kernel_rfl
theorem cal2 : callable Try.prog 2 = true := by kernel_rfl
theorem cal3 : callable Try.prog 3 = true := by kernel_rfl
theorem cal4 : callable Try.prog 4 = true := by kernel_rfl
theorem cal5 : callable Try.prog 5 = true := by kernel_rfl
theorem cal6 : callable Try.prog 6 = true := by kernel_rfl
theorem cal7 : callable Try.prog 7 = true := by kernel_rfl
theorem cal8 : callable Try.prog 8 = true := by kernel_rfl
theorem cal9 : callable Try.prog 9 = true := by kernel_rfl
theorem cal10 : callable Try.prog 10 = true := by kernel_rfl
theorem cal11 : callable Try.prog 11 = true := by kernel_rfl
theorem cal12 : callable Try.prog 12 = true := by kernel_rfl
theorem cal13 : callable Try.prog 13 = true := by kernel_rfl
theorem cal14 : callable Try.prog 14 = true := by kernel_rfl
theorem cal15 : callable Try.prog 15 = true := by kernel_rfl
theorem cal16 : callable Try.prog 16 = true := by kernel_rfl
theorem cal17 : callable Try.prog 17 = true := by kernel_rfl
theorem cal18 : callable Try.prog 18 = true := by kernel_rfl
theorem cal19 : callable Try.prog 19 = true := by kernel_rfl
theorem cal20 : callable Try.prog 20 = true := by kernel_rfl
theorem cal21 : callable Try.prog 21 = true := by kernel_rfl
theorem cal22 : callable Try.prog 22 = true := by kernel_rfl
theorem cal23 : callable Try.prog 23 = true := by kernel_rfl
theorem cal24 : callable Try.prog 24 = true := by kernel_rfl
theorem cal25 : callable Try.prog 25 = true := by kernel_rfl
theorem cal26 : callable Try.prog 26 = true := by kernel_rfl
theorem cal27 : callable Try.prog 27 = true := by kernel_rfl
theorem cal28 : callable Try.prog 28 = true := by kernel_rfl
theorem cal29 : callable Try.prog 29 = true := by kernel_rfl
theorem cal30 : callable Try.prog 30 = true := by kernel_rfl
theorem cal31 : callable Try.prog 31 = true := by kernel_rfl
theorem cal32 : callable Try.prog 32 = true := by kernel_rfl
theorem cal33 : callable Try.prog 33 = true := by kernel_rfl
theorem cal34 : callable Try.prog 34 = true := by kernel_rfl
theorem cal35 : callable Try.prog 35 = true := by kernel_rfl
theorem cal36 : callable Try.prog 36 = true := by kernel_rfl
theorem cal37 : callable Try.prog 37 = true := by kernel_rfl
theorem cal38 : callable Try.prog 38 = true := by kernel_rfl
theorem cal39 : callable Try.prog 39 = true := by kernel_rfl
theorem cal40 : callable Try.prog 40 = true := by kernel_rfl
theorem cal41 : callable Try.prog 41 = true := by kernel_rfl
theorem cal42 : callable Try.prog 42 = true := by kernel_rfl
theorem cal43 : callable Try.prog 43 = true := by kernel_rfl
theorem cal44 : callable Try.prog 44 = true := by kernel_rfl
theorem cal45 : callable Try.prog 45 = true := by kernel_rfl
theorem cal46 : callable Try.prog 46 = true := by kernel_rfl
theorem cal47 : callable Try.prog 47 = true := by kernel_rfl
theorem cal48 : callable Try.prog 48 = true := by kernel_rfl
theorem cal49 : callable Try.prog 49 = true := by kernel_rfl
theorem cal50 : callable Try.prog 50 = true := by kernel_rfl
theorem cal51 : callable Try.prog 51 = true := by kernel_rfl
theorem cal52 : callable Try.prog 52 = true := by kernel_rfl
theorem cal53 : callable Try.prog 53 = true := by kernel_rfl
theorem cal54 : callable Try.prog 54 = true := by kernel_rfl
theorem cal58 : callable Try.prog 58 = true := by kernel_rfl
theorem cal59 : callable Try.prog 59 = true := by kernel_rfl
theorem cal0 : callable Try.prog 0 = false := by kernel_rfl
theorem cal1 : callable Try.prog 1 = false := by kernel_rfl
theorem cal55 : callable Try.prog 55 = false := by kernel_rfl
theorem cal56 : callable Try.prog 56 = false := by kernel_rfl
theorem cal57 : callable Try.prog 57 = false := by kernel_rfl
theorem cal60 : callable Try.prog 60 = false := by kernel_rfl
theorem cal61 : callable Try.prog 61 = false := by kernel_rfl
theorem cal62 : callable Try.prog 62 = false := by kernel_rfl
theorem cal63 : callable Try.prog 63 = false := by kernel_rfl
theorem cal64 : callable Try.prog 64 = false := by kernel_rfl
theorem cal65 : callable Try.prog 65 = false := by kernel_rfl
theorem cal66 : callable Try.prog 66 = false := by kernel_rfl
theorem cal67 : callable Try.prog 67 = false := by kernel_rfl
theorem cal68 : callable Try.prog 68 = false := by kernel_rfl
theorem cal69 : callable Try.prog 69 = false := by kernel_rfl
theorem cal70 : callable Try.prog 70 = false := by kernel_rfl
theorem cal71 : callable Try.prog 71 = false := by kernel_rfl
theorem cal72 : callable Try.prog 72 = false := by kernel_rfl
theorem cal73 : callable Try.prog 73 = false := by kernel_rfl
theorem cal74 : callable Try.prog 74 = false := by kernel_rfl
theorem cal75 : callable Try.prog 75 = false := by kernel_rfl
theorem cal76 : callable Try.prog 76 = false := by kernel_rfl
theorem cal77 : callable Try.prog 77 = false := by kernel_rfl
theorem tyS0 : type_of% (And.intro @shp2 (And.intro @zro2 (And.intro @shp3 (And.intro @zro3 (And.intro @shp4 (And.intro @zro4 (And.intro @shp5 (And.intro @zro5 (And.intro @shp6 (And.intro @zro6 (And.intro @shp7 (And.intro @fld7n0 (And.intro @fld7n1 (And.intro @fld7n2 (And.intro @fld7n3 (And.intro @bok7 (And.intro @zro7 (And.intro @shp8 (And.intro @fld8n0 (And.intro @fld8n1 (And.intro @fld8n2 (And.intro @fld8n3 (And.intro @bok8 (And.intro @zro8 (And.intro @shp9 (And.intro @zro9 (And.intro @shp10 (And.intro @zro10 (And.intro @shp11 (And.intro @zro11 (And.intro @shp12 (And.intro @zro12 (And.intro @shp13 (And.intro @fld13n0 (And.intro @fld13n1 (And.intro @bok13 (And.intro @zro13 (And.intro @shp14 (And.intro @fld14n0 (And.intro @fld14n1 (And.intro @bok14 (And.intro @zro14 (And.intro @shp15 (And.intro @zro15 (And.intro @shp16 (And.intro @zro16 (And.intro @shp17 (And.intro @zro17 (And.intro @shp18 (And.intro @fld18n0 (And.intro @bok18 (And.intro @zro18 (And.intro @shp19 (And.intro @fld19n0 (And.intro @bok19 (And.intro @zro19 (And.intro @shp20 (And.intro @zro20 (And.intro @shp21 (And.intro @zro21 (And.intro @shp23 (And.intro @zro23 (And.intro @slc23 (And.intro @shp24 (And.intro @zro24 (And.intro @shp29 (And.intro @zro29 (And.intro @slc29 (And.intro @shp30 (And.intro @zro30 (And.intro @shp33 (And.intro @zro33 (And.intro @shp36 (And.intro @fld36n0 (And.intro @fld36n1 (And.intro @bok36 (And.intro @sih36 (And.intro @egt36 (And.intro @zro36 (And.intro @shp37 (And.intro @fld37n0 (And.intro @fld37n1 (And.intro @bok37 (And.intro @sih37 (And.intro @egt37 (And.intro @zro37 (And.intro @shp38 (And.intro @fld38n0 (And.intro @fld38n1 (And.intro @fld38n2 (And.intro @fld38n3 (And.intro @bok38 (And.intro @sih38 (And.intro @egt38 (And.intro @zro38 (And.intro @shp39 (And.intro @fld39n0 (And.intro @fld39n1 (And.intro @fld39n2 (@fld39n3)))))))))))))))))))))))))))))))))))))))))))))))))))))))))))))))))))))))))))))))))))))))))))))))))))) := And.intro @shp2 (And.intro @zro2 (And.intro @shp3 (And.intro @zro3 (And.intro @shp4 (And.intro @zro4 (And.intro @shp5 (And.intro @zro5 (And.intro @shp6 (And.intro @zro6 (And.intro @shp7 (And.intro @fld7n0 (And.intro @fld7n1 (And.intro @fld7n2 (And.intro @fld7n3 (And.intro @bok7 (And.intro @zro7 (And.intro @shp8 (And.intro @fld8n0 (And.intro @fld8n1 (And.intro @fld8n2 (And.intro @fld8n3 (And.intro @bok8 (And.intro @zro8 (And.intro @shp9 (And.intro @zro9 (And.intro @shp10 (And.intro @zro10 (And.intro @shp11 (And.intro @zro11 (And.intro @shp12 (And.intro @zro12 (And.intro @shp13 (And.intro @fld13n0 (And.intro @fld13n1 (And.intro @bok13 (And.intro @zro13 (And.intro @shp14 (And.intro @fld14n0 (And.intro @fld14n1 (And.intro @bok14 (And.intro @zro14 (And.intro @shp15 (And.intro @zro15 (And.intro @shp16 (And.intro @zro16 (And.intro @shp17 (And.intro @zro17 (And.intro @shp18 (And.intro @fld18n0 (And.intro @bok18 (And.intro @zro18 (And.intro @shp19 (And.intro @fld19n0 (And.intro @bok19 (And.intro @zro19 (And.intro @shp20 (And.intro @zro20 (And.intro @shp21 (And.intro @zro21 (And.intro @shp23 (And.intro @zro23 (And.intro @slc23 (And.intro @shp24 (And.intro @zro24 (And.intro @shp29 (And.intro @zro29 (And.intro @slc29 (And.intro @shp30 (And.intro @zro30 (And.intro @shp33 (And.intro @zro33 (And.intro @shp36 (And.intro @fld36n0 (And.intro @fld36n1 (And.intro @bok36 (And.intro @sih36 (And.intro @egt36 (And.intro @zro36 (And.intro @shp37 (And.intro @fld37n0 (And.intro @fld37n1 (And.intro @bok37 (And.intro @sih37 (And.intro @egt37 (And.intro @zro37 (And.intro @shp38 (And.intro @fld38n0 (And.intro @fld38n1 (And.intro @fld38n2 (And.intro @fld38n3 (And.intro @bok38 (And.intro @sih38 (And.intro @egt38 (And.intro @zro38 (And.intro @shp39 (And.intro @fld39n0 (And.intro @fld39n1 (And.intro @fld39n2 (@fld39n3)))))))))))))))))))))))))))))))))))))))))))))))))))))))))))))))))))))))))))))))))))))))))))))))))))
theorem tyS1 : type_of% (And.intro @bok39 (And.intro @sih39 (And.intro @egt39 (And.intro @zro39 (And.intro @shp50 (And.intro @fld50n0 (And.intro @fld50n1 (And.intro @bok50 (And.intro @sih50 (And.intro @egt50 (And.intro @zro50 (And.intro @shp51 (And.intro @fld51n0 (And.intro @fld51n1 (And.intro @bok51 (And.intro @sih51 (And.intro @egt51 (And.intro @zro51 (And.intro @shp52 (And.intro @fld52n0 (And.intro @bok52 (And.intro @sih52 (And.intro @egt52 (And.intro @zro52 (And.intro @shp53 (And.intro @fld53n0 (And.intro @bok53 (And.intro @sih53 (And.intro @egt53 (And.intro @zro53 (And.intro @shp55 (And.intro @zro55 (And.intro @shp58 (And.intro @zro58 (And.intro @shp59 (And.intro @zro59 (And.intro @slc59 (And.intro @shp60 (And.intro @fld60n0 (And.intro @fld60n1 (And.intro @bok60 (And.intro @zro60 (And.intro @shp61 (And.intro @fld61n0 (And.intro @fld61n1 (And.intro @bok61 (And.intro @zro61 (And.intro @shp63 (And.intro @zro63 (And.intro @shp64 (And.intro @zro64 (And.intro @shp75 (And.intro @zro75 (And.intro @shp78 (And.intro @zro78 (And.intro @shp81 (And.intro @zro81 (And.intro @shp83 (And.intro @zro83 (And.intro @shp89 (And.intro @fld89n0 (And.intro @fld89n1 (And.intro @fld89n2 (And.intro @fld89n3 (And.intro @bok89 (And.intro @zro89 (And.intro @shp90 (And.intro @fld90n0 (And.intro @fld90n1 (And.intro @fld90n2 (And.intro @fld90n3 (And.intro @bok90 (And.intro @zro90 (And.intro @shp91 (And.intro @bok91 (And.intro @zro91 (And.intro @shp92 (And.intro @fld92n0 (And.intro @bok92 (And.intro @zro92 (And.intro @shp93 (And.intro @fld93n0 (And.intro @bok93 (And.intro @zro93 (And.intro @shp94 (And.intro @zro94 (And.intro @shp95 (And.intro @zro95 (And.intro @shp97 (And.intro @zro97 (And.intro @shp98 (And.intro @zro98 (And.intro @shp99 (And.intro @fld99n0 (And.intro @fld99n1 (And.intro @fld99n2 (And.intro @fld99n3 (And.intro @fld99n4 (And.intro @fld99n5 (@fld99n6)))))))))))))))))))))))))))))))))))))))))))))))))))))))))))))))))))))))))))))))))))))))))))))))))))) := And.intro @bok39 (And.intro @sih39 (And.intro @egt39 (And.intro @zro39 (And.intro @shp50 (And.intro @fld50n0 (And.intro @fld50n1 (And.intro @bok50 (And.intro @sih50 (And.intro @egt50 (And.intro @zro50 (And.intro @shp51 (And.intro @fld51n0 (And.intro @fld51n1 (And.intro @bok51 (And.intro @sih51 (And.intro @egt51 (And.intro @zro51 (And.intro @shp52 (And.intro @fld52n0 (And.intro @bok52 (And.intro @sih52 (And.intro @egt52 (And.intro @zro52 (And.intro @shp53 (And.intro @fld53n0 (And.intro @bok53 (And.intro @sih53 (And.intro @egt53 (And.intro @zro53 (And.intro @shp55 (And.intro @zro55 (And.intro @shp58 (And.intro @zro58 (And.intro @shp59 (And.intro @zro59 (And.intro @slc59 (And.intro @shp60 (And.intro @fld60n0 (And.intro @fld60n1 (And.intro @bok60 (And.intro @zro60 (And.intro @shp61 (And.intro @fld61n0 (And.intro @fld61n1 (And.intro @bok61 (And.intro @zro61 (And.intro @shp63 (And.intro @zro63 (And.intro @shp64 (And.intro @zro64 (And.intro @shp75 (And.intro @zro75 (And.intro @shp78 (And.intro @zro78 (And.intro @shp81 (And.intro @zro81 (And.intro @shp83 (And.intro @zro83 (And.intro @shp89 (And.intro @fld89n0 (And.intro @fld89n1 (And.intro @fld89n2 (And.intro @fld89n3 (And.intro @bok89 (And.intro @zro89 (And.intro @shp90 (And.intro @fld90n0 (And.intro @fld90n1 (And.intro @fld90n2 (And.intro @fld90n3 (And.intro @bok90 (And.intro @zro90 (And.intro @shp91 (And.intro @bok91 (And.intro @zro91 (And.intro @shp92 (And.intro @fld92n0 (And.intro @bok92 (And.intro @zro92 (And.intro @shp93 (And.intro @fld93n0 (And.intro @bok93 (And.intro @zro93 (And.intro @shp94 (And.intro @zro94 (And.intro @shp95 (And.intro @zro95 (And.intro @shp97 (And.intro @zro97 (And.intro @shp98 (And.intro @zro98 (And.intro @shp99 (And.intro @fld99n0 (And.intro @fld99n1 (And.intro @fld99n2 (And.intro @fld99n3 (And.intro @fld99n4 (And.intro @fld99n5 (@fld99n6)))))))))))))))))))))))))))))))))))))))))))))))))))))))))))))))))))))))))))))))))))))))))))))))))))
theorem tyS2 : type_of% (And.intro @fld99n7 (And.intro @fld99n8 (And.intro @fld99n9 (And.intro @fld99n10 (And.intro @bok99 (And.intro @zro99 (And.intro @shp100 (And.intro @fld100n0 (And.intro @fld100n1 (And.intro @fld100n2 (And.intro @fld100n3 (And.intro @fld100n4 (And.intro @fld100n5 (And.intro @fld100n6 (And.intro @fld100n7 (And.intro @fld100n8 (And.intro @fld100n9 (And.intro @fld100n10 (And.intro @bok100 (And.intro @zro100 (And.intro @cal2 (And.intro @cal3 (And.intro @cal4 (And.intro @cal5 (And.intro @cal6 (And.intro @cal7 (And.intro @cal8 (And.intro @cal9 (And.intro @cal10 (And.intro @cal11 (And.intro @cal12 (And.intro @cal13 (And.intro @cal14 (And.intro @cal15 (And.intro @cal16 (And.intro @cal17 (And.intro @cal18 (And.intro @cal19 (And.intro @cal20 (And.intro @cal21 (And.intro @cal22 (And.intro @cal23 (And.intro @cal24 (And.intro @cal25 (And.intro @cal26 (And.intro @cal27 (And.intro @cal28 (And.intro @cal29 (And.intro @cal30 (And.intro @cal31 (And.intro @cal32 (And.intro @cal33 (And.intro @cal34 (And.intro @cal35 (And.intro @cal36 (And.intro @cal37 (And.intro @cal38 (And.intro @cal39 (And.intro @cal40 (And.intro @cal41 (And.intro @cal42 (And.intro @cal43 (And.intro @cal44 (And.intro @cal45 (And.intro @cal46 (And.intro @cal47 (And.intro @cal48 (And.intro @cal49 (And.intro @cal50 (And.intro @cal51 (And.intro @cal52 (And.intro @cal53 (And.intro @cal54 (And.intro @cal58 (And.intro @cal59 (And.intro @cal0 (And.intro @cal1 (And.intro @cal55 (And.intro @cal56 (And.intro @cal57 (And.intro @cal60 (And.intro @cal61 (And.intro @cal62 (And.intro @cal63 (And.intro @cal64 (And.intro @cal65 (And.intro @cal66 (And.intro @cal67 (And.intro @cal68 (And.intro @cal69 (And.intro @cal70 (And.intro @cal71 (And.intro @cal72 (And.intro @cal73 (And.intro @cal74 (And.intro @cal75 (And.intro @cal76 (And.intro @cal77 (And.intro @Try.underlying2 (@Try.underlying3)))))))))))))))))))))))))))))))))))))))))))))))))))))))))))))))))))))))))))))))))))))))))))))))))))) := And.intro @fld99n7 (And.intro @fld99n8 (And.intro @fld99n9 (And.intro @fld99n10 (And.intro @bok99 (And.intro @zro99 (And.intro @shp100 (And.intro @fld100n0 (And.intro @fld100n1 (And.intro @fld100n2 (And.intro @fld100n3 (And.intro @fld100n4 (And.intro @fld100n5 (And.intro @fld100n6 (And.intro @fld100n7 (And.intro @fld100n8 (And.intro @fld100n9 (And.intro @fld100n10 (And.intro @bok100 (And.intro @zro100 (And.intro @cal2 (And.intro @cal3 (And.intro @cal4 (And.intro @cal5 (And.intro @cal6 (And.intro @cal7 (And.intro @cal8 (And.intro @cal9 (And.intro @cal10 (And.intro @cal11 (And.intro @cal12 (And.intro @cal13 (And.intro @cal14 (And.intro @cal15 (And.intro @cal16 (And.intro @cal17 (And.intro @cal18 (And.intro @cal19 (And.intro @cal20 (And.intro @cal21 (And.intro @cal22 (And.intro @cal23 (And.intro @cal24 (And.intro @cal25 (And.intro @cal26 (And.intro @cal27 (And.intro @cal28 (And.intro @cal29 (And.intro @cal30 (And.intro @cal31 (And.intro @cal32 (And.intro @cal33 (And.intro @cal34 (And.intro @cal35 (And.intro @cal36 (And.intro @cal37 (And.intro @cal38 (And.intro @cal39 (And.intro @cal40 (And.intro @cal41 (And.intro @cal42 (And.intro @cal43 (And.intro @cal44 (And.intro @cal45 (And.intro @cal46 (And.intro @cal47 (And.intro @cal48 (And.intro @cal49 (And.intro @cal50 (And.intro @cal51 (And.intro @cal52 (And.intro @cal53 (And.intro @cal54 (And.intro @cal58 (And.intro @cal59 (And.intro @cal0 (And.intro @cal1 (And.intro @cal55 (And.intro @cal56 (And.intro @cal57 (And.intro @cal60 (And.intro @cal61 (And.intro @cal62 (And.intro @cal63 (And.intro @cal64 (And.intro @cal65 (And.intro @cal66 (And.intro @cal67 (And.intro @cal68 (And.intro @cal69 (And.intro @cal70 (And.intro @cal71 (And.intro @cal72 (And.intro @cal73 (And.intro @cal74 (And.intro @cal75 (And.intro @cal76 (And.intro @cal77 (And.intro @Try.underlying2 (@Try.underlying3)))))))))))))))))))))))))))))))))))))))))))))))))))))))))))))))))))))))))))))))))))))))))))))))))))
theorem tyS3 : type_of% (And.intro @Try.underlying4 (And.intro @Try.underlying5 (And.intro @Try.underlying6 (And.intro @Try.underlying7 (And.intro @Try.underlying8 (And.intro @Try.underlying9 (And.intro @Try.underlying10 (And.intro @Try.underlying11 (And.intro @Try.underlying12 (And.intro @Try.underlying13 (And.intro @Try.underlying14 (And.intro @Try.underlying15 (And.intro @Try.underlying16 (And.intro @Try.underlying17 (And.intro @Try.underlying18 (And.intro @Try.underlying19 (And.intro @Try.underlying21 (And.intro @Try.underlying23 (And.intro @Try.underlying24 (And.intro @Try.underlying29 (And.intro @Try.underlying30 (And.intro @Try.underlying33 (And.intro @Try.underlying36 (And.intro @Try.underlying37 (And.intro @Try.underlying38 (And.intro @Try.underlying39 (And.intro @Try.underlying50 (And.intro @Try.underlying51 (And.intro @Try.underlying52 (And.intro @Try.underlying53 (And.intro @Try.underlying55 (And.intro @Try.underlying58 (And.intro @Try.underlying59 (And.intro @Try.underlying60 (And.intro @Try.underlying61 (And.intro @Try.underlying75 (And.intro @Try.underlying78 (And.intro @Try.underlying81 (And.intro @Try.underlying83 (And.intro @Try.underlying89 (And.intro @Try.underlying90 (And.intro @Try.underlying91 (And.intro @Try.underlying92 (And.intro @Try.underlying93 (And.intro @Try.underlying94 (And.intro @Try.underlying95 (And.intro @Try.underlying97 (And.intro @Try.underlying98 (And.intro @Try.underlying99 (And.intro @Try.underlying100 (And.intro @Try.results2 (And.intro @Try.results3 (And.intro @Try.results4 (And.intro @Try.results5 (And.intro @Try.results6 (And.intro @Try.results7 (And.intro @Try.results8 (And.intro @Try.results9 (And.intro @Try.results10 (And.intro @Try.results11 (And.intro @Try.results12 (And.intro @Try.results13 (And.intro @Try.results14 (And.intro @Try.results15 (And.intro @Try.results16 (And.intro @Try.results17 (And.intro @Try.results18 (And.intro @Try.results19 (And.intro @Try.results20 (And.intro @Try.results21 (And.intro @Try.results22 (And.intro @Try.results23 (And.intro @Try.results24 (And.intro @Try.results25 (And.intro @Try.results26 (And.intro @Try.results27 (And.intro @Try.results28 (And.intro @Try.results29 (And.intro @Try.results30 (And.intro @Try.results31 (And.intro @Try.results32 (And.intro @Try.results33 (And.intro @Try.results34 (And.intro @Try.results35 (And.intro @Try.results36 (And.intro @Try.results37 (And.intro @Try.results38 (And.intro @Try.results39 (And.intro @Try.results40 (And.intro @Try.results41 (And.intro @Try.results42 (And.intro @Try.results43 (And.intro @Try.results44 (And.intro @Try.results45 (And.intro @Try.results46 (And.intro @Try.results47 (And.intro @Try.results48 (And.intro @Try.results49 (And.intro @Try.results50 (@Try.results51)))))))))))))))))))))))))))))))))))))))))))))))))))))))))))))))))))))))))))))))))))))))))))))))))))) := And.intro @Try.underlying4 (And.intro @Try.underlying5 (And.intro @Try.underlying6 (And.intro @Try.underlying7 (And.intro @Try.underlying8 (And.intro @Try.underlying9 (And.intro @Try.underlying10 (And.intro @Try.underlying11 (And.intro @Try.underlying12 (And.intro @Try.underlying13 (And.intro @Try.underlying14 (And.intro @Try.underlying15 (And.intro @Try.underlying16 (And.intro @Try.underlying17 (And.intro @Try.underlying18 (And.intro @Try.underlying19 (And.intro @Try.underlying21 (And.intro @Try.underlying23 (And.intro @Try.underlying24 (And.intro @Try.underlying29 (And.intro @Try.underlying30 (And.intro @Try.underlying33 (And.intro @Try.underlying36 (And.intro @Try.underlying37 (And.intro @Try.underlying38 (And.intro @Try.underlying39 (And.intro @Try.underlying50 (And.intro @Try.underlying51 (And.intro @Try.underlying52 (And.intro @Try.underlying53 (And.intro @Try.underlying55 (And.intro @Try.underlying58 (And.intro @Try.underlying59 (And.intro @Try.underlying60 (And.intro @Try.underlying61 (And.intro @Try.underlying75 (And.intro @Try.underlying78 (And.intro @Try.underlying81 (And.intro @Try.underlying83 (And.intro @Try.underlying89 (And.intro @Try.underlying90 (And.intro @Try.underlying91 (And.intro @Try.underlying92 (And.intro @Try.underlying93 (And.intro @Try.underlying94 (And.intro @Try.underlying95 (And.intro @Try.underlying97 (And.intro @Try.underlying98 (And.intro @Try.underlying99 (And.intro @Try.underlying100 (And.intro @Try.results2 (And.intro @Try.results3 (And.intro @Try.results4 (And.intro @Try.results5 (And.intro @Try.results6 (And.intro @Try.results7 (And.intro @Try.results8 (And.intro @Try.results9 (And.intro @Try.results10 (And.intro @Try.results11 (And.intro @Try.results12 (And.intro @Try.results13 (And.intro @Try.results14 (And.intro @Try.results15 (And.intro @Try.results16 (And.intro @Try.results17 (And.intro @Try.results18 (And.intro @Try.results19 (And.intro @Try.results20 (And.intro @Try.results21 (And.intro @Try.results22 (And.intro @Try.results23 (And.intro @Try.results24 (And.intro @Try.results25 (And.intro @Try.results26 (And.intro @Try.results27 (And.intro @Try.results28 (And.intro @Try.results29 (And.intro @Try.results30 (And.intro @Try.results31 (And.intro @Try.results32 (And.intro @Try.results33 (And.intro @Try.results34 (And.intro @Try.results35 (And.intro @Try.results36 (And.intro @Try.results37 (And.intro @Try.results38 (And.intro @Try.results39 (And.intro @Try.results40 (And.intro @Try.results41 (And.intro @Try.results42 (And.intro @Try.results43 (And.intro @Try.results44 (And.intro @Try.results45 (And.intro @Try.results46 (And.intro @Try.results47 (And.intro @Try.results48 (And.intro @Try.results49 (And.intro @Try.results50 (@Try.results51)))))))))))))))))))))))))))))))))))))))))))))))))))))))))))))))))))))))))))))))))))))))))))))))))))
theorem tyS4 : type_of% (And.intro @Try.results52 (And.intro @Try.results53 (And.intro @Try.results54 (And.intro @Try.results58 (@Try.results59))))) := And.intro @Try.results52 (And.intro @Try.results53 (And.intro @Try.results54 (And.intro @Try.results58 (@Try.results59))))
theorem tyS : type_of% (And.intro @tyS0 (And.intro @tyS1 (And.intro @tyS2 (And.intro @tyS3 (@tyS4))))) := And.intro @tyS0 (And.intro @tyS1 (And.intro @tyS2 (And.intro @tyS3 (@tyS4))))
end Go.Proofs.Ytilifbndbdanoaa
