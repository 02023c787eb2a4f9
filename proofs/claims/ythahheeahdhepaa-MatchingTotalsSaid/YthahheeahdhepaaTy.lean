/-
Closed facts on the types and functions of this translation.
Conditions: none.
-/
import Derived.Test.YthahheeahdhepaaProg
import Derived.Test.YthahheeahdhepaaVmEq
import Derived.KernelRfl
namespace Go.Proofs.Ythahheeahdhepaa
open Go.Vm
set_option maxRecDepth 100000
theorem shp2 : shp Try.prog 2 = some (false, 1) := by kernel_rfl
theorem zro2 : zro Try.prog 2 = some (.int .i64 0) := by kernel_rfl
theorem shp3 : shp Try.prog 3 = some (false, 1) := by kernel_rfl
theorem zro3 : zro Try.prog 3 = some (.int .i64 0) := by kernel_rfl
theorem shp4 : shp Try.prog 4 = some (false, 1) := by kernel_rfl
theorem zro4 : zro Try.prog 4 = some (.bool false) := by kernel_rfl
theorem shp5 : shp Try.prog 5 = some (false, 1) := by kernel_rfl
theorem zro5 : zro Try.prog 5 = some (.int .u8 0) := by kernel_rfl
theorem shp6 : shp Try.prog 6 = some (false, 1) := by kernel_rfl
theorem zro6 : zro Try.prog 6 = some (.int .u8 0) := by kernel_rfl
theorem shp7 : shp Try.prog 7 = some (true, 4) := by kernel_rfl
theorem fld7n0 : fld Try.prog 7 0 = some (0, false, 1) := by kernel_rfl
theorem fld7n1 : fld Try.prog 7 1 = some (1, false, 1) := by kernel_rfl
theorem fld7n2 : fld Try.prog 7 2 = some (2, false, 1) := by kernel_rfl
theorem fld7n3 : fld Try.prog 7 3 = some (3, false, 1) := by kernel_rfl
theorem bok7 : bldOk Try.prog 7 = true := by kernel_rfl
theorem zro7 : zro Try.prog 7 = some (.agg #[.int .i64 0, .int .i64 0, .bool false, .int .u8 0]) := by kernel_rfl
theorem shp8 : shp Try.prog 8 = some (true, 4) := by kernel_rfl
theorem fld8n0 : fld Try.prog 8 0 = some (0, false, 1) := by kernel_rfl
theorem fld8n1 : fld Try.prog 8 1 = some (1, false, 1) := by kernel_rfl
theorem fld8n2 : fld Try.prog 8 2 = some (2, false, 1) := by kernel_rfl
theorem fld8n3 : fld Try.prog 8 3 = some (3, false, 1) := by kernel_rfl
theorem bok8 : bldOk Try.prog 8 = true := by kernel_rfl
theorem zro8 : zro Try.prog 8 = some (.agg #[.int .i64 0, .int .i64 0, .bool false, .int .u8 0]) := by kernel_rfl
theorem shp9 : shp Try.prog 9 = some (false, 1) := by kernel_rfl
theorem zro9 : zro Try.prog 9 = some (.string ⟨#[]⟩) := by kernel_rfl
theorem shp10 : shp Try.prog 10 = some (false, 1) := by kernel_rfl
theorem zro10 : zro Try.prog 10 = some (.string ⟨#[]⟩) := by kernel_rfl
theorem shp11 : shp Try.prog 11 = some (false, 1) := by kernel_rfl
theorem zro11 : zro Try.prog 11 = some (.string ⟨#[]⟩) := by kernel_rfl
theorem shp12 : shp Try.prog 12 = some (false, 1) := by kernel_rfl
theorem zro12 : zro Try.prog 12 = some (.int .u64 0) := by kernel_rfl
theorem shp13 : shp Try.prog 13 = some (true, 2) := by kernel_rfl
theorem fld13n0 : fld Try.prog 13 0 = some (0, false, 1) := by kernel_rfl
theorem fld13n1 : fld Try.prog 13 1 = some (1, false, 1) := by kernel_rfl
theorem bok13 : bldOk Try.prog 13 = true := by kernel_rfl
theorem zro13 : zro Try.prog 13 = some (.agg #[.string ⟨#[]⟩, .int .u64 0]) := by kernel_rfl
theorem shp14 : shp Try.prog 14 = some (true, 2) := by kernel_rfl
theorem fld14n0 : fld Try.prog 14 0 = some (0, false, 1) := by kernel_rfl
theorem fld14n1 : fld Try.prog 14 1 = some (1, false, 1) := by kernel_rfl
theorem bok14 : bldOk Try.prog 14 = true := by kernel_rfl
theorem zro14 : zro Try.prog 14 = some (.agg #[.string ⟨#[]⟩, .int .u64 0]) := by kernel_rfl
theorem shp15 : shp Try.prog 15 = some (false, 1) := by kernel_rfl
theorem zro15 : zro Try.prog 15 = some (.pointer none) := by kernel_rfl
theorem shp16 : shp Try.prog 16 = some (false, 1) := by kernel_rfl
theorem zro16 : zro Try.prog 16 = some (.pointer none) := by kernel_rfl
theorem shp17 : shp Try.prog 17 = some (false, 1) := by kernel_rfl
theorem zro17 : zro Try.prog 17 = some (.pointer none) := by kernel_rfl
theorem shp18 : shp Try.prog 18 = some (true, 1) := by kernel_rfl
theorem fld18n0 : fld Try.prog 18 0 = some (0, false, 1) := by kernel_rfl
theorem bok18 : bldOk Try.prog 18 = true := by kernel_rfl
theorem zro18 : zro Try.prog 18 = some (.agg #[.pointer none]) := by kernel_rfl
theorem shp19 : shp Try.prog 19 = some (true, 1) := by kernel_rfl
theorem fld19n0 : fld Try.prog 19 0 = some (0, false, 1) := by kernel_rfl
theorem bok19 : bldOk Try.prog 19 = true := by kernel_rfl
theorem zro19 : zro Try.prog 19 = some (.agg #[.pointer none]) := by kernel_rfl
theorem shp20 : shp Try.prog 20 = some (false, 1) := by kernel_rfl
theorem zro20 : zro Try.prog 20 = some (.nilIface) := by kernel_rfl
theorem shp21 : shp Try.prog 21 = some (false, 1) := by kernel_rfl
theorem zro21 : zro Try.prog 21 = some (.int .i32 0) := by kernel_rfl
theorem shp22 : shp Try.prog 22 = some (true, 10) := by kernel_rfl
theorem fld22n0 : fld Try.prog 22 0 = some (0, false, 1) := by kernel_rfl
theorem fld22n1 : fld Try.prog 22 1 = some (1, false, 1) := by kernel_rfl
theorem fld22n2 : fld Try.prog 22 2 = some (2, false, 1) := by kernel_rfl
theorem fld22n3 : fld Try.prog 22 3 = some (3, false, 1) := by kernel_rfl
theorem fld22n4 : fld Try.prog 22 4 = some (4, false, 1) := by kernel_rfl
theorem fld22n5 : fld Try.prog 22 5 = some (5, false, 1) := by kernel_rfl
theorem fld22n6 : fld Try.prog 22 6 = some (6, false, 1) := by kernel_rfl
theorem fld22n7 : fld Try.prog 22 7 = some (7, false, 1) := by kernel_rfl
theorem fld22n8 : fld Try.prog 22 8 = some (8, false, 1) := by kernel_rfl
theorem fld22n9 : fld Try.prog 22 9 = some (9, false, 1) := by kernel_rfl
theorem bok22 : bldOk Try.prog 22 = true := by kernel_rfl
theorem sih22 : Try.prog.stoodInHeld 22 = false := by kernel_rfl
theorem egt22 : Try.prog.eqGuardType Try.prog.depth 22 = false := by kernel_rfl
theorem zro22 : zro Try.prog 22 = some (.agg #[.string ⟨#[]⟩, .string ⟨#[]⟩, .int .i64 0, .int .i64 0, .int .i64 0, .int .i64 0, .int .i64 0, .int .i64 0, .int .i64 0, .int .i64 0]) := by kernel_rfl
theorem shp23 : shp Try.prog 23 = some (true, 10) := by kernel_rfl
theorem fld23n0 : fld Try.prog 23 0 = some (0, false, 1) := by kernel_rfl
theorem fld23n1 : fld Try.prog 23 1 = some (1, false, 1) := by kernel_rfl
theorem fld23n2 : fld Try.prog 23 2 = some (2, false, 1) := by kernel_rfl
theorem fld23n3 : fld Try.prog 23 3 = some (3, false, 1) := by kernel_rfl
theorem fld23n4 : fld Try.prog 23 4 = some (4, false, 1) := by kernel_rfl
theorem fld23n5 : fld Try.prog 23 5 = some (5, false, 1) := by kernel_rfl
theorem fld23n6 : fld Try.prog 23 6 = some (6, false, 1) := by kernel_rfl
theorem fld23n7 : fld Try.prog 23 7 = some (7, false, 1) := by kernel_rfl
theorem fld23n8 : fld Try.prog 23 8 = some (8, false, 1) := by kernel_rfl
theorem fld23n9 : fld Try.prog 23 9 = some (9, false, 1) := by kernel_rfl
theorem bok23 : bldOk Try.prog 23 = true := by kernel_rfl
theorem sih23 : Try.prog.stoodInHeld 23 = false := by kernel_rfl
theorem egt23 : Try.prog.eqGuardType Try.prog.depth 23 = false := by kernel_rfl
theorem zro23 : zro Try.prog 23 = some (.agg #[.string ⟨#[]⟩, .string ⟨#[]⟩, .int .i64 0, .int .i64 0, .int .i64 0, .int .i64 0, .int .i64 0, .int .i64 0, .int .i64 0, .int .i64 0]) := by kernel_rfl
theorem shp24 : shp Try.prog 24 = some (true, 2) := by kernel_rfl
theorem fld24n0 : fld Try.prog 24 0 = some (0, false, 1) := by kernel_rfl
theorem fld24n1 : fld Try.prog 24 1 = some (1, false, 1) := by kernel_rfl
theorem bok24 : bldOk Try.prog 24 = true := by kernel_rfl
theorem sih24 : Try.prog.stoodInHeld 24 = false := by kernel_rfl
theorem egt24 : Try.prog.eqGuardType Try.prog.depth 24 = false := by kernel_rfl
theorem zro24 : zro Try.prog 24 = some (.agg #[.int .i64 0, .string ⟨#[]⟩]) := by kernel_rfl
theorem shp25 : shp Try.prog 25 = some (true, 2) := by kernel_rfl
theorem fld25n0 : fld Try.prog 25 0 = some (0, false, 1) := by kernel_rfl
theorem fld25n1 : fld Try.prog 25 1 = some (1, false, 1) := by kernel_rfl
theorem bok25 : bldOk Try.prog 25 = true := by kernel_rfl
theorem sih25 : Try.prog.stoodInHeld 25 = false := by kernel_rfl
theorem egt25 : Try.prog.eqGuardType Try.prog.depth 25 = false := by kernel_rfl
theorem zro25 : zro Try.prog 25 = some (.agg #[.int .i64 0, .string ⟨#[]⟩]) := by kernel_rfl
theorem shp26 : shp Try.prog 26 = some (true, 12) := by kernel_rfl
theorem fld26n0 : fld Try.prog 26 0 = some (0, false, 1) := by kernel_rfl
theorem fld26n1 : fld Try.prog 26 1 = some (1, false, 1) := by kernel_rfl
theorem fld26n2 : fld Try.prog 26 2 = some (2, false, 1) := by kernel_rfl
theorem fld26n3 : fld Try.prog 26 3 = some (3, false, 1) := by kernel_rfl
theorem fld26n4 : fld Try.prog 26 4 = some (4, false, 1) := by kernel_rfl
theorem fld26n5 : fld Try.prog 26 5 = some (5, false, 1) := by kernel_rfl
theorem fld26n6 : fld Try.prog 26 6 = some (6, false, 1) := by kernel_rfl
theorem fld26n7 : fld Try.prog 26 7 = some (7, true, 2) := by kernel_rfl
theorem fld26n8 : fld Try.prog 26 8 = some (9, false, 1) := by kernel_rfl
theorem fld26n9 : fld Try.prog 26 9 = some (10, false, 1) := by kernel_rfl
theorem fld26n10 : fld Try.prog 26 10 = some (11, false, 1) := by kernel_rfl
theorem bok26 : bldOk Try.prog 26 = true := by kernel_rfl
theorem sih26 : Try.prog.stoodInHeld 26 = false := by kernel_rfl
theorem egt26 : Try.prog.eqGuardType Try.prog.depth 26 = false := by kernel_rfl
theorem zro26 : zro Try.prog 26 = some (.agg #[.int .i64 0, .string ⟨#[]⟩, .string ⟨#[]⟩, .string ⟨#[]⟩, .string ⟨#[]⟩, .string ⟨#[]⟩, .string ⟨#[]⟩, .int .i64 0, .string ⟨#[]⟩, .int .i64 0, .int .i64 0, .bool false]) := by kernel_rfl
theorem shp27 : shp Try.prog 27 = some (true, 12) := by kernel_rfl
theorem fld27n0 : fld Try.prog 27 0 = some (0, false, 1) := by kernel_rfl
theorem fld27n1 : fld Try.prog 27 1 = some (1, false, 1) := by kernel_rfl
theorem fld27n2 : fld Try.prog 27 2 = some (2, false, 1) := by kernel_rfl
theorem fld27n3 : fld Try.prog 27 3 = some (3, false, 1) := by kernel_rfl
theorem fld27n4 : fld Try.prog 27 4 = some (4, false, 1) := by kernel_rfl
theorem fld27n5 : fld Try.prog 27 5 = some (5, false, 1) := by kernel_rfl
theorem fld27n6 : fld Try.prog 27 6 = some (6, false, 1) := by kernel_rfl
theorem fld27n7 : fld Try.prog 27 7 = some (7, true, 2) := by kernel_rfl
theorem fld27n8 : fld Try.prog 27 8 = some (9, false, 1) := by kernel_rfl
theorem fld27n9 : fld Try.prog 27 9 = some (10, false, 1) := by kernel_rfl
theorem fld27n10 : fld Try.prog 27 10 = some (11, false, 1) := by kernel_rfl
theorem bok27 : bldOk Try.prog 27 = true := by kernel_rfl
theorem sih27 : Try.prog.stoodInHeld 27 = false := by kernel_rfl
theorem egt27 : Try.prog.eqGuardType Try.prog.depth 27 = false := by kernel_rfl
theorem zro27 : zro Try.prog 27 = some (.agg #[.int .i64 0, .string ⟨#[]⟩, .string ⟨#[]⟩, .string ⟨#[]⟩, .string ⟨#[]⟩, .string ⟨#[]⟩, .string ⟨#[]⟩, .int .i64 0, .string ⟨#[]⟩, .int .i64 0, .int .i64 0, .bool false]) := by kernel_rfl
theorem shp28 : shp Try.prog 28 = some (true, 2) := by kernel_rfl
theorem fld28n0 : fld Try.prog 28 0 = some (0, false, 1) := by kernel_rfl
theorem fld28n1 : fld Try.prog 28 1 = some (1, false, 1) := by kernel_rfl
theorem bok28 : bldOk Try.prog 28 = true := by kernel_rfl
theorem sih28 : Try.prog.stoodInHeld 28 = false := by kernel_rfl
theorem egt28 : Try.prog.eqGuardType Try.prog.depth 28 = false := by kernel_rfl
theorem zro28 : zro Try.prog 28 = some (.agg #[.int .i64 0, .int .i64 0]) := by kernel_rfl
theorem shp29 : shp Try.prog 29 = some (true, 2) := by kernel_rfl
theorem fld29n0 : fld Try.prog 29 0 = some (0, false, 1) := by kernel_rfl
theorem fld29n1 : fld Try.prog 29 1 = some (1, false, 1) := by kernel_rfl
theorem bok29 : bldOk Try.prog 29 = true := by kernel_rfl
theorem sih29 : Try.prog.stoodInHeld 29 = false := by kernel_rfl
theorem egt29 : Try.prog.eqGuardType Try.prog.depth 29 = false := by kernel_rfl
theorem zro29 : zro Try.prog 29 = some (.agg #[.int .i64 0, .int .i64 0]) := by kernel_rfl
theorem shp33 : shp Try.prog 33 = some (false, 1) := by kernel_rfl
theorem zro33 : zro Try.prog 33 = some (.int .i64 0) := by kernel_rfl
theorem shp37 : shp Try.prog 37 = some (true, 2) := by kernel_rfl
theorem fld37n0 : fld Try.prog 37 0 = some (0, false, 1) := by kernel_rfl
theorem fld37n1 : fld Try.prog 37 1 = some (1, false, 1) := by kernel_rfl
theorem bok37 : bldOk Try.prog 37 = true := by kernel_rfl
theorem sih37 : Try.prog.stoodInHeld 37 = false := by kernel_rfl
theorem egt37 : Try.prog.eqGuardType Try.prog.depth 37 = false := by kernel_rfl
theorem zro37 : zro Try.prog 37 = some (.agg #[.int .i64 0, .int .i64 0]) := by kernel_rfl
theorem shp38 : shp Try.prog 38 = some (true, 13) := by kernel_rfl
theorem fld38n0 : fld Try.prog 38 0 = some (0, true, 10) := by kernel_rfl
theorem fld38n1 : fld Try.prog 38 1 = some (10, false, 1) := by kernel_rfl
theorem fld38n2 : fld Try.prog 38 2 = some (11, false, 1) := by kernel_rfl
theorem fld38n3 : fld Try.prog 38 3 = some (12, false, 1) := by kernel_rfl
theorem bok38 : bldOk Try.prog 38 = true := by kernel_rfl
theorem sih38 : Try.prog.stoodInHeld 38 = false := by kernel_rfl
theorem egt38 : Try.prog.eqGuardType Try.prog.depth 38 = false := by kernel_rfl
theorem zro38 : zro Try.prog 38 = some (.agg #[.string ⟨#[]⟩, .string ⟨#[]⟩, .int .i64 0, .int .i64 0, .int .i64 0, .int .i64 0, .int .i64 0, .int .i64 0, .int .i64 0, .int .i64 0, .int .i64 0, .int .i64 0, .int .i64 0]) := by kernel_rfl
theorem shp39 : shp Try.prog 39 = some (true, 13) := by kernel_rfl
theorem fld39n0 : fld Try.prog 39 0 = some (0, true, 10) := by kernel_rfl
theorem fld39n1 : fld Try.prog 39 1 = some (10, false, 1) := by kernel_rfl
theorem fld39n2 : fld Try.prog 39 2 = some (11, false, 1) := by kernel_rfl
theorem fld39n3 : fld Try.prog 39 3 = some (12, false, 1) := by kernel_rfl
theorem bok39 : bldOk Try.prog 39 = true := by kernel_rfl
theorem sih39 : Try.prog.stoodInHeld 39 = false := by kernel_rfl
theorem egt39 : Try.prog.eqGuardType Try.prog.depth 39 = false := by kernel_rfl
theorem zro39 : zro Try.prog 39 = some (.agg #[.string ⟨#[]⟩, .string ⟨#[]⟩, .int .i64 0, .int .i64 0, .int .i64 0, .int .i64 0, .int .i64 0, .int .i64 0, .int .i64 0, .int .i64 0, .int .i64 0, .int .i64 0, .int .i64 0]) := by kernel_rfl
theorem shp42 : shp Try.prog 42 = some (true, 13) := by kernel_rfl
theorem fld42n0 : fld Try.prog 42 0 = some (0, true, 10) := by kernel_rfl
theorem fld42n1 : fld Try.prog 42 1 = some (10, false, 1) := by kernel_rfl
theorem fld42n2 : fld Try.prog 42 2 = some (11, false, 1) := by kernel_rfl
theorem fld42n3 : fld Try.prog 42 3 = some (12, false, 1) := by kernel_rfl
theorem bok42 : bldOk Try.prog 42 = true := by kernel_rfl
theorem sih42 : Try.prog.stoodInHeld 42 = false := by kernel_rfl
theorem egt42 : Try.prog.eqGuardType Try.prog.depth 42 = false := by kernel_rfl
theorem zro42 : zro Try.prog 42 = some (.agg #[.string ⟨#[]⟩, .string ⟨#[]⟩, .int .i64 0, .int .i64 0, .int .i64 0, .int .i64 0, .int .i64 0, .int .i64 0, .int .i64 0, .int .i64 0, .int .i64 0, .int .i64 0, .int .i64 0]) := by kernel_rfl
theorem shp47 : shp Try.prog 47 = some (false, 1) := by kernel_rfl
theorem zro47 : zro Try.prog 47 = some (.slice none 0 0) := by kernel_rfl
theorem slc47 : slc Try.prog 47 = some (23, 10, 96) := by kernel_rfl
theorem shp53 : shp Try.prog 53 = some (false, 1) := by kernel_rfl
theorem zro53 : zro Try.prog 53 = some (.slice none 0 0) := by kernel_rfl
theorem slc53 : slc Try.prog 53 = some (27, 12, 152) := by kernel_rfl
theorem shp55 : shp Try.prog 55 = some (false, 1) := by kernel_rfl
theorem zro55 : zro Try.prog 55 = some (.slice none 0 0) := by kernel_rfl
theorem slc55 : slc Try.prog 55 = some (61, 3, 32) := by kernel_rfl
theorem shp60 : shp Try.prog 60 = some (true, 3) := by kernel_rfl
theorem fld60n0 : fld Try.prog 60 0 = some (0, false, 1) := by kernel_rfl
theorem fld60n1 : fld Try.prog 60 1 = some (1, false, 1) := by kernel_rfl
theorem fld60n2 : fld Try.prog 60 2 = some (2, false, 1) := by kernel_rfl
theorem bok60 : bldOk Try.prog 60 = true := by kernel_rfl
theorem sih60 : Try.prog.stoodInHeld 60 = false := by kernel_rfl
theorem egt60 : Try.prog.eqGuardType Try.prog.depth 60 = false := by kernel_rfl
theorem zro60 : zro Try.prog 60 = some (.agg #[.int .i64 0, .string ⟨#[]⟩, .int .i64 0]) := by kernel_rfl
theorem shp61 : shp Try.prog 61 = some (true, 3) := by kernel_rfl
theorem fld61n0 : fld Try.prog 61 0 = some (0, false, 1) := by kernel_rfl
theorem fld61n1 : fld Try.prog 61 1 = some (1, false, 1) := by kernel_rfl
theorem fld61n2 : fld Try.prog 61 2 = some (2, false, 1) := by kernel_rfl
theorem bok61 : bldOk Try.prog 61 = true := by kernel_rfl
theorem sih61 : Try.prog.stoodInHeld 61 = false := by kernel_rfl
theorem egt61 : Try.prog.eqGuardType Try.prog.depth 61 = false := by kernel_rfl
theorem zro61 : zro Try.prog 61 = some (.agg #[.int .i64 0, .string ⟨#[]⟩, .int .i64 0]) := by kernel_rfl
theorem shp63 : shp Try.prog 63 = some (false, 1) := by kernel_rfl
theorem zro63 : zro Try.prog 63 = some (.slice none 0 0) := by kernel_rfl
theorem slc63 : slc Try.prog 63 = some (9, 1, 16) := by kernel_rfl
theorem shp85 : shp Try.prog 85 = some (true, 12) := by kernel_rfl
theorem fld85n0 : fld Try.prog 85 0 = some (0, false, 1) := by kernel_rfl
theorem fld85n1 : fld Try.prog 85 1 = some (1, false, 1) := by kernel_rfl
theorem fld85n2 : fld Try.prog 85 2 = some (2, false, 1) := by kernel_rfl
theorem fld85n3 : fld Try.prog 85 3 = some (3, false, 1) := by kernel_rfl
theorem fld85n4 : fld Try.prog 85 4 = some (4, false, 1) := by kernel_rfl
theorem fld85n5 : fld Try.prog 85 5 = some (5, false, 1) := by kernel_rfl
theorem fld85n6 : fld Try.prog 85 6 = some (6, false, 1) := by kernel_rfl
theorem fld85n7 : fld Try.prog 85 7 = some (7, true, 2) := by kernel_rfl
theorem fld85n8 : fld Try.prog 85 8 = some (9, false, 1) := by kernel_rfl
theorem fld85n9 : fld Try.prog 85 9 = some (10, false, 1) := by kernel_rfl
theorem fld85n10 : fld Try.prog 85 10 = some (11, false, 1) := by kernel_rfl
theorem bok85 : bldOk Try.prog 85 = true := by kernel_rfl
theorem sih85 : Try.prog.stoodInHeld 85 = false := by kernel_rfl
theorem egt85 : Try.prog.eqGuardType Try.prog.depth 85 = false := by kernel_rfl
theorem zro85 : zro Try.prog 85 = some (.agg #[.int .i64 0, .string ⟨#[]⟩, .string ⟨#[]⟩, .string ⟨#[]⟩, .string ⟨#[]⟩, .string ⟨#[]⟩, .string ⟨#[]⟩, .int .i64 0, .string ⟨#[]⟩, .int .i64 0, .int .i64 0, .bool false]) := by kernel_rfl
theorem shp86 : shp Try.prog 86 = some (false, 1) := by kernel_rfl
theorem zro86 : zro Try.prog 86 = some (.slice none 0 0) := by kernel_rfl
theorem slc86 : slc Try.prog 86 = some (83, 1, 8) := by kernel_rfl
theorem shp97 : shp Try.prog 97 = some (false, 1) := by kernel_rfl
theorem zro97 : zro Try.prog 97 = some (.int .u64 0) := by kernel_rfl
theorem shp100 : shp Try.prog 100 = some (true, 4) := by kernel_rfl
theorem fld100n0 : fld Try.prog 100 0 = some (0, false, 1) := by kernel_rfl
theorem fld100n1 : fld Try.prog 100 1 = some (1, false, 1) := by kernel_rfl
theorem fld100n2 : fld Try.prog 100 2 = some (2, false, 1) := by kernel_rfl
theorem fld100n3 : fld Try.prog 100 3 = some (3, false, 1) := by kernel_rfl
theorem bok100 : bldOk Try.prog 100 = true := by kernel_rfl
theorem zro100 : zro Try.prog 100 = some (.agg #[.pointer none, .pointer none, .pointer none, .string ⟨#[]⟩]) := by kernel_rfl
theorem shp101 : shp Try.prog 101 = some (true, 4) := by kernel_rfl
theorem fld101n0 : fld Try.prog 101 0 = some (0, false, 1) := by kernel_rfl
theorem fld101n1 : fld Try.prog 101 1 = some (1, false, 1) := by kernel_rfl
theorem fld101n2 : fld Try.prog 101 2 = some (2, false, 1) := by kernel_rfl
theorem fld101n3 : fld Try.prog 101 3 = some (3, false, 1) := by kernel_rfl
theorem bok101 : bldOk Try.prog 101 = true := by kernel_rfl
theorem zro101 : zro Try.prog 101 = some (.agg #[.pointer none, .pointer none, .pointer none, .string ⟨#[]⟩]) := by kernel_rfl
theorem shp102 : shp Try.prog 102 = some (true, 0) := by kernel_rfl
theorem bok102 : bldOk Try.prog 102 = false := by kernel_rfl
theorem zro102 : zro Try.prog 102 = some (.agg #[]) := by kernel_rfl
theorem shp103 : shp Try.prog 103 = some (true, 0) := by kernel_rfl
theorem fld103n0 : fld Try.prog 103 0 = some (0, true, 0) := by kernel_rfl
theorem bok103 : bldOk Try.prog 103 = true := by kernel_rfl
theorem zro103 : zro Try.prog 103 = some (.agg #[]) := by kernel_rfl
theorem shp104 : shp Try.prog 104 = some (true, 0) := by kernel_rfl
theorem fld104n0 : fld Try.prog 104 0 = some (0, true, 0) := by kernel_rfl
theorem bok104 : bldOk Try.prog 104 = true := by kernel_rfl
theorem zro104 : zro Try.prog 104 = some (.agg #[]) := by kernel_rfl
theorem shp106 : shp Try.prog 106 = some (false, 1) := by kernel_rfl
theorem zro106 : zro Try.prog 106 = some (.int .u32 0) := by kernel_rfl
theorem shp107 : shp Try.prog 107 = some (false, 1) := by kernel_rfl
theorem zro107 : zro Try.prog 107 = some (.int .u8 0) := by kernel_rfl
theorem shp108 : shp Try.prog 108 = some (false, 1) := by kernel_rfl
theorem zro108 : zro Try.prog 108 = some (.int .u8 0) := by kernel_rfl
theorem shp110 : shp Try.prog 110 = some (false, 1) := by kernel_rfl
theorem zro110 : zro Try.prog 110 = some (.pointer none) := by kernel_rfl
theorem shp111 : shp Try.prog 111 = some (false, 1) := by kernel_rfl
theorem zro111 : zro Try.prog 111 = some (.int .i32 0) := by kernel_rfl
theorem shp112 : shp Try.prog 112 = some (false, 1) := by kernel_rfl
theorem zro112 : zro Try.prog 112 = some (.int .i32 0) := by kernel_rfl
theorem shp113 : shp Try.prog 113 = some (true, 11) := by kernel_rfl
theorem fld113n0 : fld Try.prog 113 0 = some (0, false, 1) := by kernel_rfl
theorem fld113n1 : fld Try.prog 113 1 = some (1, false, 1) := by kernel_rfl
theorem fld113n2 : fld Try.prog 113 2 = some (2, false, 1) := by kernel_rfl
theorem fld113n3 : fld Try.prog 113 3 = some (3, false, 1) := by kernel_rfl
theorem fld113n4 : fld Try.prog 113 4 = some (4, false, 1) := by kernel_rfl
theorem fld113n5 : fld Try.prog 113 5 = some (5, false, 1) := by kernel_rfl
theorem fld113n6 : fld Try.prog 113 6 = some (6, false, 1) := by kernel_rfl
theorem fld113n7 : fld Try.prog 113 7 = some (7, false, 1) := by kernel_rfl
theorem fld113n8 : fld Try.prog 113 8 = some (8, false, 1) := by kernel_rfl
theorem fld113n9 : fld Try.prog 113 9 = some (9, false, 1) := by kernel_rfl
theorem fld113n10 : fld Try.prog 113 10 = some (10, false, 1) := by kernel_rfl
theorem bok113 : bldOk Try.prog 113 = true := by kernel_rfl
theorem zro113 : zro Try.prog 113 = some (.agg #[.int .u64 0, .int .u64 0, .int .u32 0, .int .u8 0, .int .u8 0, .int .u8 0, .int .u8 0, .nilFunc, .pointer none, .int .i32 0, .int .i32 0]) := by kernel_rfl
theorem shp114 : shp Try.prog 114 = some (true, 11) := by kernel_rfl
theorem fld114n0 : fld Try.prog 114 0 = some (0, false, 1) := by kernel_rfl
theorem fld114n1 : fld Try.prog 114 1 = some (1, false, 1) := by kernel_rfl
theorem fld114n2 : fld Try.prog 114 2 = some (2, false, 1) := by kernel_rfl
theorem fld114n3 : fld Try.prog 114 3 = some (3, false, 1) := by kernel_rfl
theorem fld114n4 : fld Try.prog 114 4 = some (4, false, 1) := by kernel_rfl
theorem fld114n5 : fld Try.prog 114 5 = some (5, false, 1) := by kernel_rfl
theorem fld114n6 : fld Try.prog 114 6 = some (6, false, 1) := by kernel_rfl
theorem fld114n7 : fld Try.prog 114 7 = some (7, false, 1) := by kernel_rfl
theorem fld114n8 : fld Try.prog 114 8 = some (8, false, 1) := by kernel_rfl
theorem fld114n9 : fld Try.prog 114 9 = some (9, false, 1) := by kernel_rfl
theorem fld114n10 : fld Try.prog 114 10 = some (10, false, 1) := by kernel_rfl
theorem bok114 : bldOk Try.prog 114 = true := by kernel_rfl
theorem zro114 : zro Try.prog 114 = some (.agg #[.int .u64 0, .int .u64 0, .int .u32 0, .int .u8 0, .int .u8 0, .int .u8 0, .int .u8 0, .nilFunc, .pointer none, .int .i32 0, .int .i32 0]) := by kernel_rfl
theorem shp115 : shp Try.prog 115 = some (false, 1) := by kernel_rfl
theorem zro115 : zro Try.prog 115 = some (.pointer none) := by kernel_rfl
theorem cal2 : callable Try.prog 2 = true := by kernel_rfl
theorem cal3 : callable Try.prog 3 = true := by kernel_rfl
theorem cal4 : callable Try.prog 4 = true := by kernel_rfl
theorem cal5 : callable Try.prog 5 = true := by kernel_rfl
theorem cal6 : callable Try.prog 6 = true := by kernel_rfl
theorem cal7 : callable Try.prog 7 = true := by kernel_rfl
theorem cal8 : callable Try.prog 8 = true := by kernel_rfl
theorem cal9 : callable Try.prog 9 = true := by kernel_rfl
theorem cal10 : callable Try.prog 10 = true := by kernel_rfl
theorem cal11 : callable Try.prog 11 = true := by kernel_rfl
theorem cal12 : callable Try.prog 12 = true := by kernel_rfl
theorem cal13 : callable Try.prog 13 = true := by kernel_rfl
theorem cal14 : callable Try.prog 14 = true := by kernel_rfl
theorem cal15 : callable Try.prog 15 = true := by kernel_rfl
theorem cal16 : callable Try.prog 16 = true := by kernel_rfl
theorem cal17 : callable Try.prog 17 = true := by kernel_rfl
theorem cal18 : callable Try.prog 18 = true := by kernel_rfl
theorem cal19 : callable Try.prog 19 = true := by kernel_rfl
theorem cal20 : callable Try.prog 20 = true := by kernel_rfl
theorem cal21 : callable Try.prog 21 = true := by kernel_rfl
theorem cal22 : callable Try.prog 22 = true := by kernel_rfl
theorem cal23 : callable Try.prog 23 = true := by kernel_rfl
theorem cal24 : callable Try.prog 24 = true := by kernel_rfl
theorem cal25 : callable Try.prog 25 = true := by kernel_rfl
theorem cal26 : callable Try.prog 26 = true := by kernel_rfl
theorem cal27 : callable Try.prog 27 = true := by kernel_rfl
theorem cal28 : callable Try.prog 28 = true := by kernel_rfl
theorem cal29 : callable Try.prog 29 = true := by kernel_rfl
theorem cal30 : callable Try.prog 30 = true := by kernel_rfl
theorem cal31 : callable Try.prog 31 = true := by kernel_rfl
theorem cal32 : callable Try.prog 32 = true := by kernel_rfl
theorem cal33 : callable Try.prog 33 = true := by kernel_rfl
theorem cal34 : callable Try.prog 34 = true := by kernel_rfl
theorem cal35 : callable Try.prog 35 = true := by kernel_rfl
theorem cal36 : callable Try.prog 36 = true := by kernel_rfl
theorem cal37 : callable Try.prog 37 = true := by kernel_rfl
theorem cal38 : callable Try.prog 38 = true := by kernel_rfl
theorem cal39 : callable Try.prog 39 = true := by kernel_rfl
theorem cal40 : callable Try.prog 40 = true := by kernel_rfl
theorem cal41 : callable Try.prog 41 = true := by kernel_rfl
theorem cal42 : callable Try.prog 42 = true := by kernel_rfl
theorem cal43 : callable Try.prog 43 = true := by kernel_rfl
theorem cal44 : callable Try.prog 44 = true := by kernel_rfl
theorem cal45 : callable Try.prog 45 = true := by kernel_rfl
theorem cal46 : callable Try.prog 46 = true := by kernel_rfl
theorem cal47 : callable Try.prog 47 = true := by kernel_rfl
theorem cal48 : callable Try.prog 48 = true := by kernel_rfl
theorem cal49 : callable Try.prog 49 = true := by kernel_rfl
theorem cal50 : callable Try.prog 50 = true := by kernel_rfl
theorem cal51 : callable Try.prog 51 = true := by kernel_rfl
theorem cal52 : callable Try.prog 52 = true := by kernel_rfl
theorem cal53 : callable Try.prog 53 = true := by kernel_rfl
theorem cal54 : callable Try.prog 54 = true := by kernel_rfl
theorem cal55 : callable Try.prog 55 = true := by kernel_rfl
theorem cal56 : callable Try.prog 56 = true := by kernel_rfl
theorem cal57 : callable Try.prog 57 = true := by kernel_rfl
theorem cal58 : callable Try.prog 58 = true := by kernel_rfl
theorem cal59 : callable Try.prog 59 = true := by kernel_rfl
theorem cal60 : callable Try.prog 60 = true := by kernel_rfl
theorem cal61 : callable Try.prog 61 = true := by kernel_rfl
theorem cal62 : callable Try.prog 62 = true := by kernel_rfl
theorem cal63 : callable Try.prog 63 = true := by kernel_rfl
theorem cal64 : callable Try.prog 64 = true := by kernel_rfl
theorem cal65 : callable Try.prog 65 = true := by kernel_rfl
theorem cal66 : callable Try.prog 66 = true := by kernel_rfl
theorem cal67 : callable Try.prog 67 = true := by kernel_rfl
theorem cal68 : callable Try.prog 68 = true := by kernel_rfl
theorem cal69 : callable Try.prog 69 = true := by kernel_rfl
theorem cal70 : callable Try.prog 70 = true := by kernel_rfl
theorem cal71 : callable Try.prog 71 = true := by kernel_rfl
theorem cal72 : callable Try.prog 72 = true := by kernel_rfl
theorem cal73 : callable Try.prog 73 = true := by kernel_rfl
theorem cal74 : callable Try.prog 74 = true := by kernel_rfl
theorem cal75 : callable Try.prog 75 = true := by kernel_rfl
theorem cal76 : callable Try.prog 76 = true := by kernel_rfl
theorem cal77 : callable Try.prog 77 = true := by kernel_rfl
theorem cal78 : callable Try.prog 78 = true := by kernel_rfl
theorem cal79 : callable Try.prog 79 = true := by kernel_rfl
theorem cal80 : callable Try.prog 80 = true := by kernel_rfl
theorem cal81 : callable Try.prog 81 = true := by kernel_rfl
theorem cal82 : callable Try.prog 82 = true := by kernel_rfl
theorem cal83 : callable Try.prog 83 = true := by kernel_rfl
theorem cal84 : callable Try.prog 84 = true := by kernel_rfl
theorem cal85 : callable Try.prog 85 = true := by kernel_rfl
theorem cal87 : callable Try.prog 87 = true := by kernel_rfl
theorem cal0 : callable Try.prog 0 = false := by kernel_rfl
theorem cal1 : callable Try.prog 1 = false := by kernel_rfl
theorem cal86 : callable Try.prog 86 = false := by kernel_rfl
theorem cal88 : callable Try.prog 88 = false := by kernel_rfl
theorem cal89 : callable Try.prog 89 = false := by kernel_rfl
theorem cal90 : callable Try.prog 90 = false := by kernel_rfl
theorem cal91 : callable Try.prog 91 = false := by kernel_rfl
theorem cal92 : callable Try.prog 92 = false := by kernel_rfl
theorem cal93 : callable Try.prog 93 = false := by kernel_rfl
theorem cal94 : callable Try.prog 94 = false := by kernel_rfl
theorem cal95 : callable Try.prog 95 = false := by kernel_rfl
theorem cal96 : callable Try.prog 96 = false := by kernel_rfl
theorem cal97 : callable Try.prog 97 = false := by kernel_rfl
theorem cal98 : callable Try.prog 98 = false := by kernel_rfl
theorem cal99 : callable Try.prog 99 = false := by kernel_rfl
theorem cal100 : callable Try.prog 100 = false := by kernel_rfl
theorem cal101 : callable Try.prog 101 = false := by kernel_rfl
theorem cal102 : callable Try.prog 102 = false := by kernel_rfl
theorem cal103 : callable Try.prog 103 = false := by kernel_rfl
theorem cal104 : callable Try.prog 104 = false := by kernel_rfl
theorem tyS0 : type_of% (And.intro @shp2 (And.intro @zro2 (And.intro @shp3 (And.intro @zro3 (And.intro @shp4 (And.intro @zro4 (And.intro @shp5 (And.intro @zro5 (And.intro @shp6 (And.intro @zro6 (And.intro @shp7 (And.intro @fld7n0 (And.intro @fld7n1 (And.intro @fld7n2 (And.intro @fld7n3 (And.intro @bok7 (And.intro @zro7 (And.intro @shp8 (And.intro @fld8n0 (And.intro @fld8n1 (And.intro @fld8n2 (And.intro @fld8n3 (And.intro @bok8 (And.intro @zro8 (And.intro @shp9 (And.intro @zro9 (And.intro @shp10 (And.intro @zro10 (And.intro @shp11 (And.intro @zro11 (And.intro @shp12 (And.intro @zro12 (And.intro @shp13 (And.intro @fld13n0 (And.intro @fld13n1 (And.intro @bok13 (And.intro @zro13 (And.intro @shp14 (And.intro @fld14n0 (And.intro @fld14n1 (And.intro @bok14 (And.intro @zro14 (And.intro @shp15 (And.intro @zro15 (And.intro @shp16 (And.intro @zro16 (And.intro @shp17 (And.intro @zro17 (And.intro @shp18 (And.intro @fld18n0 (And.intro @bok18 (And.intro @zro18 (And.intro @shp19 (And.intro @fld19n0 (And.intro @bok19 (And.intro @zro19 (And.intro @shp20 (And.intro @zro20 (And.intro @shp21 (And.intro @zro21 (And.intro @shp22 (And.intro @fld22n0 (And.intro @fld22n1 (And.intro @fld22n2 (And.intro @fld22n3 (And.intro @fld22n4 (And.intro @fld22n5 (And.intro @fld22n6 (And.intro @fld22n7 (And.intro @fld22n8 (And.intro @fld22n9 (And.intro @bok22 (And.intro @sih22 (And.intro @egt22 (And.intro @zro22 (And.intro @shp23 (And.intro @fld23n0 (And.intro @fld23n1 (And.intro @fld23n2 (And.intro @fld23n3 (And.intro @fld23n4 (And.intro @fld23n5 (And.intro @fld23n6 (And.intro @fld23n7 (And.intro @fld23n8 (And.intro @fld23n9 (And.intro @bok23 (And.intro @sih23 (And.intro @egt23 (And.intro @zro23 (And.intro @shp24 (And.intro @fld24n0 (And.intro @fld24n1 (And.intro @bok24 (And.intro @sih24 (And.intro @egt24 (And.intro @zro24 (And.intro @shp25 (And.intro @fld25n0 (@fld25n1)))))))))))))))))))))))))))))))))))))))))))))))))))))))))))))))))))))))))))))))))))))))))))))))))))) := And.intro @shp2 (And.intro @zro2 (And.intro @shp3 (And.intro @zro3 (And.intro @shp4 (And.intro @zro4 (And.intro @shp5 (And.intro @zro5 (And.intro @shp6 (And.intro @zro6 (And.intro @shp7 (And.intro @fld7n0 (And.intro @fld7n1 (And.intro @fld7n2 (And.intro @fld7n3 (And.intro @bok7 (And.intro @zro7 (And.intro @shp8 (And.intro @fld8n0 (And.intro @fld8n1 (And.intro @fld8n2 (And.intro @fld8n3 (And.intro @bok8 (And.intro @zro8 (And.intro @shp9 (And.intro @zro9 (And.intro @shp10 (And.intro @zro10 (And.intro @shp11 (And.intro @zro11 (And.intro @shp12 (And.intro @zro12 (And.intro @shp13 (And.intro @fld13n0 (And.intro @fld13n1 (And.intro @bok13 (And.intro @zro13 (And.intro @shp14 (And.intro @fld14n0 (And.intro @fld14n1 (And.intro @bok14 (And.intro @zro14 (And.intro @shp15 (And.intro @zro15 (And.intro @shp16 (And.intro @zro16 (And.intro @shp17 (And.intro @zro17 (And.intro @shp18 (And.intro @fld18n0 (And.intro @bok18 (And.intro @zro18 (And.intro @shp19 (And.intro @fld19n0 (And.intro @bok19 (And.intro @zro19 (And.intro @shp20 (And.intro @zro20 (And.intro @shp21 (And.intro @zro21 (And.intro @shp22 (And.intro @fld22n0 (And.intro @fld22n1 (And.intro @fld22n2 (And.intro @fld22n3 (And.intro @fld22n4 (And.intro @fld22n5 (And.intro @fld22n6 (And.intro @fld22n7 (And.intro @fld22n8 (And.intro @fld22n9 (And.intro @bok22 (And.intro @sih22 (And.intro @egt22 (And.intro @zro22 (And.intro @shp23 (And.intro @fld23n0 (And.intro @fld23n1 (And.intro @fld23n2 (And.intro @fld23n3 (And.intro @fld23n4 (And.intro @fld23n5 (And.intro @fld23n6 (And.intro @fld23n7 (And.intro @fld23n8 (And.intro @fld23n9 (And.intro @bok23 (And.intro @sih23 (And.intro @egt23 (And.intro @zro23 (And.intro @shp24 (And.intro @fld24n0 (And.intro @fld24n1 (And.intro @bok24 (And.intro @sih24 (And.intro @egt24 (And.intro @zro24 (And.intro @shp25 (And.intro @fld25n0 (@fld25n1)))))))))))))))))))))))))))))))))))))))))))))))))))))))))))))))))))))))))))))))))))))))))))))))))))
theorem tyS1 : type_of% (And.intro @bok25 (And.intro @sih25 (And.intro @egt25 (And.intro @zro25 (And.intro @shp26 (And.intro @fld26n0 (And.intro @fld26n1 (And.intro @fld26n2 (And.intro @fld26n3 (And.intro @fld26n4 (And.intro @fld26n5 (And.intro @fld26n6 (And.intro @fld26n7 (And.intro @fld26n8 (And.intro @fld26n9 (And.intro @fld26n10 (And.intro @bok26 (And.intro @sih26 (And.intro @egt26 (And.intro @zro26 (And.intro @shp27 (And.intro @fld27n0 (And.intro @fld27n1 (And.intro @fld27n2 (And.intro @fld27n3 (And.intro @fld27n4 (And.intro @fld27n5 (And.intro @fld27n6 (And.intro @fld27n7 (And.intro @fld27n8 (And.intro @fld27n9 (And.intro @fld27n10 (And.intro @bok27 (And.intro @sih27 (And.intro @egt27 (And.intro @zro27 (And.intro @shp28 (And.intro @fld28n0 (And.intro @fld28n1 (And.intro @bok28 (And.intro @sih28 (And.intro @egt28 (And.intro @zro28 (And.intro @shp29 (And.intro @fld29n0 (And.intro @fld29n1 (And.intro @bok29 (And.intro @sih29 (And.intro @egt29 (And.intro @zro29 (And.intro @shp33 (And.intro @zro33 (And.intro @shp37 (And.intro @fld37n0 (And.intro @fld37n1 (And.intro @bok37 (And.intro @sih37 (And.intro @egt37 (And.intro @zro37 (And.intro @shp38 (And.intro @fld38n0 (And.intro @fld38n1 (And.intro @fld38n2 (And.intro @fld38n3 (And.intro @bok38 (And.intro @sih38 (And.intro @egt38 (And.intro @zro38 (And.intro @shp39 (And.intro @fld39n0 (And.intro @fld39n1 (And.intro @fld39n2 (And.intro @fld39n3 (And.intro @bok39 (And.intro @sih39 (And.intro @egt39 (And.intro @zro39 (And.intro @shp42 (And.intro @fld42n0 (And.intro @fld42n1 (And.intro @fld42n2 (And.intro @fld42n3 (And.intro @bok42 (And.intro @sih42 (And.intro @egt42 (And.intro @zro42 (And.intro @shp47 (And.intro @zro47 (And.intro @slc47 (And.intro @shp53 (And.intro @zro53 (And.intro @slc53 (And.intro @shp55 (And.intro @zro55 (And.intro @slc55 (And.intro @shp60 (And.intro @fld60n0 (And.intro @fld60n1 (And.intro @fld60n2 (@bok60)))))))))))))))))))))))))))))))))))))))))))))))))))))))))))))))))))))))))))))))))))))))))))))))))))) := And.intro @bok25 (And.intro @sih25 (And.intro @egt25 (And.intro @zro25 (And.intro @shp26 (And.intro @fld26n0 (And.intro @fld26n1 (And.intro @fld26n2 (And.intro @fld26n3 (And.intro @fld26n4 (And.intro @fld26n5 (And.intro @fld26n6 (And.intro @fld26n7 (And.intro @fld26n8 (And.intro @fld26n9 (And.intro @fld26n10 (And.intro @bok26 (And.intro @sih26 (And.intro @egt26 (And.intro @zro26 (And.intro @shp27 (And.intro @fld27n0 (And.intro @fld27n1 (And.intro @fld27n2 (And.intro @fld27n3 (And.intro @fld27n4 (And.intro @fld27n5 (And.intro @fld27n6 (And.intro @fld27n7 (And.intro @fld27n8 (And.intro @fld27n9 (And.intro @fld27n10 (And.intro @bok27 (And.intro @sih27 (And.intro @egt27 (And.intro @zro27 (And.intro @shp28 (And.intro @fld28n0 (And.intro @fld28n1 (And.intro @bok28 (And.intro @sih28 (And.intro @egt28 (And.intro @zro28 (And.intro @shp29 (And.intro @fld29n0 (And.intro @fld29n1 (And.intro @bok29 (And.intro @sih29 (And.intro @egt29 (And.intro @zro29 (And.intro @shp33 (And.intro @zro33 (And.intro @shp37 (And.intro @fld37n0 (And.intro @fld37n1 (And.intro @bok37 (And.intro @sih37 (And.intro @egt37 (And.intro @zro37 (And.intro @shp38 (And.intro @fld38n0 (And.intro @fld38n1 (And.intro @fld38n2 (And.intro @fld38n3 (And.intro @bok38 (And.intro @sih38 (And.intro @egt38 (And.intro @zro38 (And.intro @shp39 (And.intro @fld39n0 (And.intro @fld39n1 (And.intro @fld39n2 (And.intro @fld39n3 (And.intro @bok39 (And.intro @sih39 (And.intro @egt39 (And.intro @zro39 (And.intro @shp42 (And.intro @fld42n0 (And.intro @fld42n1 (And.intro @fld42n2 (And.intro @fld42n3 (And.intro @bok42 (And.intro @sih42 (And.intro @egt42 (And.intro @zro42 (And.intro @shp47 (And.intro @zro47 (And.intro @slc47 (And.intro @shp53 (And.intro @zro53 (And.intro @slc53 (And.intro @shp55 (And.intro @zro55 (And.intro @slc55 (And.intro @shp60 (And.intro @fld60n0 (And.intro @fld60n1 (And.intro @fld60n2 (@bok60)))))))))))))))))))))))))))))))))))))))))))))))))))))))))))))))))))))))))))))))))))))))))))))))))))
theorem tyS2 : type_of% (And.intro @sih60 (And.intro @egt60 (And.intro @zro60 (And.intro @shp61 (And.intro @fld61n0 (And.intro @fld61n1 (And.intro @fld61n2 (And.intro @bok61 (And.intro @sih61 (And.intro @egt61 (And.intro @zro61 (And.intro @shp63 (And.intro @zro63 (And.intro @slc63 (And.intro @shp85 (And.intro @fld85n0 (And.intro @fld85n1 (And.intro @fld85n2 (And.intro @fld85n3 (And.intro @fld85n4 (And.intro @fld85n5 (And.intro @fld85n6 (And.intro @fld85n7 (And.intro @fld85n8 (And.intro @fld85n9 (And.intro @fld85n10 (And.intro @bok85 (And.intro @sih85 (And.intro @egt85 (And.intro @zro85 (And.intro @shp86 (And.intro @zro86 (And.intro @slc86 (And.intro @shp97 (And.intro @zro97 (And.intro @shp100 (And.intro @fld100n0 (And.intro @fld100n1 (And.intro @fld100n2 (And.intro @fld100n3 (And.intro @bok100 (And.intro @zro100 (And.intro @shp101 (And.intro @fld101n0 (And.intro @fld101n1 (And.intro @fld101n2 (And.intro @fld101n3 (And.intro @bok101 (And.intro @zro101 (And.intro @shp102 (And.intro @bok102 (And.intro @zro102 (And.intro @shp103 (And.intro @fld103n0 (And.intro @bok103 (And.intro @zro103 (And.intro @shp104 (And.intro @fld104n0 (And.intro @bok104 (And.intro @zro104 (And.intro @shp106 (And.intro @zro106 (And.intro @shp107 (And.intro @zro107 (And.intro @shp108 (And.intro @zro108 (And.intro @shp110 (And.intro @zro110 (And.intro @shp111 (And.intro @zro111 (And.intro @shp112 (And.intro @zro112 (And.intro @shp113 (And.intro @fld113n0 (And.intro @fld113n1 (And.intro @fld113n2 (And.intro @fld113n3 (And.intro @fld113n4 (And.intro @fld113n5 (And.intro @fld113n6 (And.intro @fld113n7 (And.intro @fld113n8 (And.intro @fld113n9 (And.intro @fld113n10 (And.intro @bok113 (And.intro @zro113 (And.intro @shp114 (And.intro @fld114n0 (And.intro @fld114n1 (And.intro @fld114n2 (And.intro @fld114n3 (And.intro @fld114n4 (And.intro @fld114n5 (And.intro @fld114n6 (And.intro @fld114n7 (And.intro @fld114n8 (And.intro @fld114n9 (And.intro @fld114n10 (And.intro @bok114 (@zro114)))))))))))))))))))))))))))))))))))))))))))))))))))))))))))))))))))))))))))))))))))))))))))))))))))) := And.intro @sih60 (And.intro @egt60 (And.intro @zro60 (And.intro @shp61 (And.intro @fld61n0 (And.intro @fld61n1 (And.intro @fld61n2 (And.intro @bok61 (And.intro @sih61 (And.intro @egt61 (And.intro @zro61 (And.intro @shp63 (And.intro @zro63 (And.intro @slc63 (And.intro @shp85 (And.intro @fld85n0 (And.intro @fld85n1 (And.intro @fld85n2 (And.intro @fld85n3 (And.intro @fld85n4 (And.intro @fld85n5 (And.intro @fld85n6 (And.intro @fld85n7 (And.intro @fld85n8 (And.intro @fld85n9 (And.intro @fld85n10 (And.intro @bok85 (And.intro @sih85 (And.intro @egt85 (And.intro @zro85 (And.intro @shp86 (And.intro @zro86 (And.intro @slc86 (And.intro @shp97 (And.intro @zro97 (And.intro @shp100 (And.intro @fld100n0 (And.intro @fld100n1 (And.intro @fld100n2 (And.intro @fld100n3 (And.intro @bok100 (And.intro @zro100 (And.intro @shp101 (And.intro @fld101n0 (And.intro @fld101n1 (And.intro @fld101n2 (And.intro @fld101n3 (And.intro @bok101 (And.intro @zro101 (And.intro @shp102 (And.intro @bok102 (And.intro @zro102 (And.intro @shp103 (And.intro @fld103n0 (And.intro @bok103 (And.intro @zro103 (And.intro @shp104 (And.intro @fld104n0 (And.intro @bok104 (And.intro @zro104 (And.intro @shp106 (And.intro @zro106 (And.intro @shp107 (And.intro @zro107 (And.intro @shp108 (And.intro @zro108 (And.intro @shp110 (And.intro @zro110 (And.intro @shp111 (And.intro @zro111 (And.intro @shp112 (And.intro @zro112 (And.intro @shp113 (And.intro @fld113n0 (And.intro @fld113n1 (And.intro @fld113n2 (And.intro @fld113n3 (And.intro @fld113n4 (And.intro @fld113n5 (And.intro @fld113n6 (And.intro @fld113n7 (And.intro @fld113n8 (And.intro @fld113n9 (And.intro @fld113n10 (And.intro @bok113 (And.intro @zro113 (And.intro @shp114 (And.intro @fld114n0 (And.intro @fld114n1 (And.intro @fld114n2 (And.intro @fld114n3 (And.intro @fld114n4 (And.intro @fld114n5 (And.intro @fld114n6 (And.intro @fld114n7 (And.intro @fld114n8 (And.intro @fld114n9 (And.intro @fld114n10 (And.intro @bok114 (@zro114)))))))))))))))))))))))))))))))))))))))))))))))))))))))))))))))))))))))))))))))))))))))))))))))))))
theorem tyS3 : type_of% (And.intro @shp115 (And.intro @zro115 (And.intro @cal2 (And.intro @cal3 (And.intro @cal4 (And.intro @cal5 (And.intro @cal6 (And.intro @cal7 (And.intro @cal8 (And.intro @cal9 (And.intro @cal10 (And.intro @cal11 (And.intro @cal12 (And.intro @cal13 (And.intro @cal14 (And.intro @cal15 (And.intro @cal16 (And.intro @cal17 (And.intro @cal18 (And.intro @cal19 (And.intro @cal20 (And.intro @cal21 (And.intro @cal22 (And.intro @cal23 (And.intro @cal24 (And.intro @cal25 (And.intro @cal26 (And.intro @cal27 (And.intro @cal28 (And.intro @cal29 (And.intro @cal30 (And.intro @cal31 (And.intro @cal32 (And.intro @cal33 (And.intro @cal34 (And.intro @cal35 (And.intro @cal36 (And.intro @cal37 (And.intro @cal38 (And.intro @cal39 (And.intro @cal40 (And.intro @cal41 (And.intro @cal42 (And.intro @cal43 (And.intro @cal44 (And.intro @cal45 (And.intro @cal46 (And.intro @cal47 (And.intro @cal48 (And.intro @cal49 (And.intro @cal50 (And.intro @cal51 (And.intro @cal52 (And.intro @cal53 (And.intro @cal54 (And.intro @cal55 (And.intro @cal56 (And.intro @cal57 (And.intro @cal58 (And.intro @cal59 (And.intro @cal60 (And.intro @cal61 (And.intro @cal62 (And.intro @cal63 (And.intro @cal64 (And.intro @cal65 (And.intro @cal66 (And.intro @cal67 (And.intro @cal68 (And.intro @cal69 (And.intro @cal70 (And.intro @cal71 (And.intro @cal72 (And.intro @cal73 (And.intro @cal74 (And.intro @cal75 (And.intro @cal76 (And.intro @cal77 (And.intro @cal78 (And.intro @cal79 (And.intro @cal80 (And.intro @cal81 (And.intro @cal82 (And.intro @cal83 (And.intro @cal84 (And.intro @cal85 (And.intro @cal87 (And.intro @cal0 (And.intro @cal1 (And.intro @cal86 (And.intro @cal88 (And.intro @cal89 (And.intro @cal90 (And.intro @cal91 (And.intro @cal92 (And.intro @cal93 (And.intro @cal94 (And.intro @cal95 (And.intro @cal96 (@cal97)))))))))))))))))))))))))))))))))))))))))))))))))))))))))))))))))))))))))))))))))))))))))))))))))))) := And.intro @shp115 (And.intro @zro115 (And.intro @cal2 (And.intro @cal3 (And.intro @cal4 (And.intro @cal5 (And.intro @cal6 (And.intro @cal7 (And.intro @cal8 (And.intro @cal9 (And.intro @cal10 (And.intro @cal11 (And.intro @cal12 (And.intro @cal13 (And.intro @cal14 (And.intro @cal15 (And.intro @cal16 (And.intro @cal17 (And.intro @cal18 (And.intro @cal19 (And.intro @cal20 (And.intro @cal21 (And.intro @cal22 (And.intro @cal23 (And.intro @cal24 (And.intro @cal25 (And.intro @cal26 (And.intro @cal27 (And.intro @cal28 (And.intro @cal29 (And.intro @cal30 (And.intro @cal31 (And.intro @cal32 (And.intro @cal33 (And.intro @cal34 (And.intro @cal35 (And.intro @cal36 (And.intro @cal37 (And.intro @cal38 (And.intro @cal39 (And.intro @cal40 (And.intro @cal41 (And.intro @cal42 (And.intro @cal43 (And.intro @cal44 (And.intro @cal45 (And.intro @cal46 (And.intro @cal47 (And.intro @cal48 (And.intro @cal49 (And.intro @cal50 (And.intro @cal51 (And.intro @cal52 (And.intro @cal53 (And.intro @cal54 (And.intro @cal55 (And.intro @cal56 (And.intro @cal57 (And.intro @cal58 (And.intro @cal59 (And.intro @cal60 (And.intro @cal61 (And.intro @cal62 (And.intro @cal63 (And.intro @cal64 (And.intro @cal65 (And.intro @cal66 (And.intro @cal67 (And.intro @cal68 (And.intro @cal69 (And.intro @cal70 (And.intro @cal71 (And.intro @cal72 (And.intro @cal73 (And.intro @cal74 (And.intro @cal75 (And.intro @cal76 (And.intro @cal77 (And.intro @cal78 (And.intro @cal79 (And.intro @cal80 (And.intro @cal81 (And.intro @cal82 (And.intro @cal83 (And.intro @cal84 (And.intro @cal85 (And.intro @cal87 (And.intro @cal0 (And.intro @cal1 (And.intro @cal86 (And.intro @cal88 (And.intro @cal89 (And.intro @cal90 (And.intro @cal91 (And.intro @cal92 (And.intro @cal93 (And.intro @cal94 (And.intro @cal95 (And.intro @cal96 (@cal97)))))))))))))))))))))))))))))))))))))))))))))))))))))))))))))))))))))))))))))))))))))))))))))))))))
theorem tyS4 : type_of% (And.intro @cal98 (And.intro @cal99 (And.intro @cal100 (And.intro @cal101 (And.intro @cal102 (And.intro @cal103 (And.intro @cal104 (And.intro @Try.underlying2 (And.intro @Try.underlying3 (And.intro @Try.underlying4 (And.intro @Try.underlying5 (And.intro @Try.underlying6 (And.intro @Try.underlying7 (And.intro @Try.underlying8 (And.intro @Try.underlying9 (And.intro @Try.underlying10 (And.intro @Try.underlying11 (And.intro @Try.underlying12 (And.intro @Try.underlying13 (And.intro @Try.underlying14 (And.intro @Try.underlying15 (And.intro @Try.underlying16 (And.intro @Try.underlying17 (And.intro @Try.underlying18 (And.intro @Try.underlying19 (And.intro @Try.underlying21 (And.intro @Try.underlying22 (And.intro @Try.underlying23 (And.intro @Try.underlying24 (And.intro @Try.underlying25 (And.intro @Try.underlying26 (And.intro @Try.underlying27 (And.intro @Try.underlying28 (And.intro @Try.underlying29 (And.intro @Try.underlying33 (And.intro @Try.underlying37 (And.intro @Try.underlying38 (And.intro @Try.underlying39 (And.intro @Try.underlying42 (And.intro @Try.underlying47 (And.intro @Try.underlying53 (And.intro @Try.underlying55 (And.intro @Try.underlying60 (And.intro @Try.underlying61 (And.intro @Try.underlying63 (And.intro @Try.underlying85 (And.intro @Try.underlying86 (And.intro @Try.underlying97 (And.intro @Try.underlying100 (And.intro @Try.underlying101 (And.intro @Try.underlying102 (And.intro @Try.underlying103 (And.intro @Try.underlying104 (And.intro @Try.underlying106 (And.intro @Try.underlying107 (And.intro @Try.underlying108 (And.intro @Try.underlying110 (And.intro @Try.underlying111 (And.intro @Try.underlying112 (And.intro @Try.underlying113 (And.intro @Try.underlying114 (And.intro @Try.underlying115 (And.intro @Try.results2 (And.intro @Try.results3 (And.intro @Try.results4 (And.intro @Try.results5 (And.intro @Try.results6 (And.intro @Try.results7 (And.intro @Try.results8 (And.intro @Try.results9 (And.intro @Try.results10 (And.intro @Try.results11 (And.intro @Try.results12 (And.intro @Try.results13 (And.intro @Try.results14 (And.intro @Try.results15 (And.intro @Try.results16 (And.intro @Try.results17 (And.intro @Try.results18 (And.intro @Try.results19 (And.intro @Try.results20 (And.intro @Try.results21 (And.intro @Try.results22 (And.intro @Try.results23 (And.intro @Try.results24 (And.intro @Try.results25 (And.intro @Try.results26 (And.intro @Try.results27 (And.intro @Try.results28 (And.intro @Try.results29 (And.intro @Try.results30 (And.intro @Try.results31 (And.intro @Try.results32 (And.intro @Try.results33 (And.intro @Try.results34 (And.intro @Try.results35 (And.intro @Try.results36 (And.intro @Try.results37 (And.intro @Try.results38 (@Try.results39)))))))))))))))))))))))))))))))))))))))))))))))))))))))))))))))))))))))))))))))))))))))))))))))))))) := And.intro @cal98 (And.intro @cal99 (And.intro @cal100 (And.intro @cal101 (And.intro @cal102 (And.intro @cal103 (And.intro @cal104 (And.intro @Try.underlying2 (And.intro @Try.underlying3 (And.intro @Try.underlying4 (And.intro @Try.underlying5 (And.intro @Try.underlying6 (And.intro @Try.underlying7 (And.intro @Try.underlying8 (And.intro @Try.underlying9 (And.intro @Try.underlying10 (And.intro @Try.underlying11 (And.intro @Try.underlying12 (And.intro @Try.underlying13 (And.intro @Try.underlying14 (And.intro @Try.underlying15 (And.intro @Try.underlying16 (And.intro @Try.underlying17 (And.intro @Try.underlying18 (And.intro @Try.underlying19 (And.intro @Try.underlying21 (And.intro @Try.underlying22 (And.intro @Try.underlying23 (And.intro @Try.underlying24 (And.intro @Try.underlying25 (And.intro @Try.underlying26 (And.intro @Try.underlying27 (And.intro @Try.underlying28 (And.intro @Try.underlying29 (And.intro @Try.underlying33 (And.intro @Try.underlying37 (And.intro @Try.underlying38 (And.intro @Try.underlying39 (And.intro @Try.underlying42 (And.intro @Try.underlying47 (And.intro @Try.underlying53 (And.intro @Try.underlying55 (And.intro @Try.underlying60 (And.intro @Try.underlying61 (And.intro @Try.underlying63 (And.intro @Try.underlying85 (And.intro @Try.underlying86 (And.intro @Try.underlying97 (And.intro @Try.underlying100 (And.intro @Try.underlying101 (And.intro @Try.underlying102 (And.intro @Try.underlying103 (And.intro @Try.underlying104 (And.intro @Try.underlying106 (And.intro @Try.underlying107 (And.intro @Try.underlying108 (And.intro @Try.underlying110 (And.intro @Try.underlying111 (And.intro @Try.underlying112 (And.intro @Try.underlying113 (And.intro @Try.underlying114 (And.intro @Try.underlying115 (And.intro @Try.results2 (And.intro @Try.results3 (And.intro @Try.results4 (And.intro @Try.results5 (And.intro @Try.results6 (And.intro @Try.results7 (And.intro @Try.results8 (And.intro @Try.results9 (And.intro @Try.results10 (And.intro @Try.results11 (And.intro @Try.results12 (And.intro @Try.results13 (And.intro @Try.results14 (And.intro @Try.results15 (And.intro @Try.results16 (And.intro @Try.results17 (And.intro @Try.results18 (And.intro @Try.results19 (And.intro @Try.results20 (And.intro @Try.results21 (And.intro @Try.results22 (And.intro @Try.results23 (And.intro @Try.results24 (And.intro @Try.results25 (And.intro @Try.results26 (And.intro @Try.results27 (And.intro @Try.results28 (And.intro @Try.results29 (And.intro @Try.results30 (And.intro @Try.results31 (And.intro @Try.results32 (And.intro @Try.results33 (And.intro @Try.results34 (And.intro @Try.results35 (And.intro @Try.results36 (And.intro @Try.results37 (And.intro @Try.results38 (@Try.results39)))))))))))))))))))))))))))))))))))))))))))))))))))))))))))))))))))))))))))))))))))))))))))))))))))
theorem tyS5 : type_of% (And.intro @Try.results40 (And.intro @Try.results41 (And.intro @Try.results42 (And.intro @Try.results43 (And.intro @Try.results44 (And.intro @Try.results45 (And.intro @Try.results46 (And.intro @Try.results47 (And.intro @Try.results48 (And.intro @Try.results49 (And.intro @Try.results50 (And.intro @Try.results51 (And.intro @Try.results52 (And.intro @Try.results53 (And.intro @Try.results54 (And.intro @Try.results55 (And.intro @Try.results56 (And.intro @Try.results57 (And.intro @Try.results58 (And.intro @Try.results59 (And.intro @Try.results60 (And.intro @Try.results61 (And.intro @Try.results62 (And.intro @Try.results63 (And.intro @Try.results64 (And.intro @Try.results65 (And.intro @Try.results66 (And.intro @Try.results67 (And.intro @Try.results68 (And.intro @Try.results69 (And.intro @Try.results70 (And.intro @Try.results71 (And.intro @Try.results72 (And.intro @Try.results73 (And.intro @Try.results74 (And.intro @Try.results75 (And.intro @Try.results76 (And.intro @Try.results77 (And.intro @Try.results78 (And.intro @Try.results79 (And.intro @Try.results80 (And.intro @Try.results81 (And.intro @Try.results82 (And.intro @Try.results83 (And.intro @Try.results84 (And.intro @Try.results85 (@Try.results87))))))))))))))))))))))))))))))))))))))))))))))) := And.intro @Try.results40 (And.intro @Try.results41 (And.intro @Try.results42 (And.intro @Try.results43 (And.intro @Try.results44 (And.intro @Try.results45 (And.intro @Try.results46 (And.intro @Try.results47 (And.intro @Try.results48 (And.intro @Try.results49 (And.intro @Try.results50 (And.intro @Try.results51 (And.intro @Try.results52 (And.intro @Try.results53 (And.intro @Try.results54 (And.intro @Try.results55 (And.intro @Try.results56 (And.intro @Try.results57 (And.intro @Try.results58 (And.intro @Try.results59 (And.intro @Try.results60 (And.intro @Try.results61 (And.intro @Try.results62 (And.intro @Try.results63 (And.intro @Try.results64 (And.intro @Try.results65 (And.intro @Try.results66 (And.intro @Try.results67 (And.intro @Try.results68 (And.intro @Try.results69 (And.intro @Try.results70 (And.intro @Try.results71 (And.intro @Try.results72 (And.intro @Try.results73 (And.intro @Try.results74 (And.intro @Try.results75 (And.intro @Try.results76 (And.intro @Try.results77 (And.intro @Try.results78 (And.intro @Try.results79 (And.intro @Try.results80 (And.intro @Try.results81 (And.intro @Try.results82 (And.intro @Try.results83 (And.intro @Try.results84 (And.intro @Try.results85 (@Try.results87))))))))))))))))))))))))))))))))))))))))))))))
theorem tyS : type_of% (And.intro @tyS0 (And.intro @tyS1 (And.intro @tyS2 (And.intro @tyS3 (And.intro @tyS4 (@tyS5)))))) := And.intro @tyS0 (And.intro @tyS1 (And.intro @tyS2 (And.intro @tyS3 (And.intro @tyS4 (@tyS5)))))
end Go.Proofs.Ythahheeahdhepaa
