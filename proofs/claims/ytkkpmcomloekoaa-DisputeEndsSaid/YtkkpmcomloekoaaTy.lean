/-
Closed facts on the types and functions of this translation.
Conditions: none.
-/
import Derived.Test.YtkkpmcomloekoaaProg
import Derived.Test.YtkkpmcomloekoaaVmEq
import Derived.KernelRfl
namespace Go.Proofs.Ytkkpmcomloekoaa
open Go.Vm
set_option maxRecDepth 100000
theorem shp2 : shp Try.prog 2 = some (false, 1) := by kernel_rfl
theorem zro2 : zro Try.prog 2 = some (.int .i64 0) := by kernel_rfl
theorem shp3 : shp Try.prog 3 = some (false, 1) := by kernel_rfl
theorem zro3 : zro Try.prog 3 = some (.int .i64 0) := by kernel_rfl
theorem shp4 : shp Try.prog 4 = some (false, 1) := by kernel_rfl
theorem zro4 : zro Try.prog 4 = some (.bool false) := by kernel_rfl
theorem shp5 : shp Try.prog 5 = some (false, 1) := by kernel_rfl
theorem zro5 : zro Try.prog 5 = some (.int .u8 0) := by kernel_rfl
theorem shp6 : shp Try.prog 6 = some (false, 1) := by kernel_rfl
theorem zro6 : zro Try.prog 6 = some (.int .u8 0) := by kernel_rfl
theorem shp7 : shp Try.prog 7 = some (true, 4) := by kernel_rfl
theorem fld7n0 : fld Try.prog 7 0 = some (0, false, 1) := by kernel_rfl
theorem fld7n1 : fld Try.prog 7 1 = some (1, false, 1) := by kernel_rfl
theorem fld7n2 : fld Try.prog 7 2 = some (2, false, 1) := by kernel_rfl
theorem fld7n3 : fld Try.prog 7 3 = some (3, false, 1) := by kernel_rfl
theorem bok7 : bldOk Try.prog 7 = true := by kernel_rfl
theorem zro7 : zro Try.prog 7 = some (.agg #[.int .i64 0, .int .i64 0, .bool false, .int .u8 0]) := by kernel_rfl
theorem shp8 : shp Try.prog 8 = some (true, 4) := by kernel_rfl
theorem fld8n0 : fld Try.prog 8 0 = some (0, false, 1) := by kernel_rfl
theorem fld8n1 : fld Try.prog 8 1 = some (1, false, 1) := by kernel_rfl
theorem fld8n2 : fld Try.prog 8 2 = some (2, false, 1) := by kernel_rfl
theorem fld8n3 : fld Try.prog 8 3 = some (3, false, 1) := by kernel_rfl
theorem bok8 : bldOk Try.prog 8 = true := by kernel_rfl
theorem zro8 : zro Try.prog 8 = some (.agg #[.int .i64 0, .int .i64 0, .bool false, .int .u8 0]) := by kernel_rfl
theorem shp9 : shp Try.prog 9 = some (false, 1) := by kernel_rfl
theorem zro9 : zro Try.prog 9 = some (.string ⟨#[]⟩) := by kernel_rfl
theorem shp10 : shp Try.prog 10 = some (false, 1) := by kernel_rfl
theorem zro10 : zro Try.prog 10 = some (.string ⟨#[]⟩) := by kernel_rfl
theorem shp11 : shp Try.prog 11 = some (false, 1) := by kernel_rfl
theorem zro11 : zro Try.prog 11 = some (.string ⟨#[]⟩) := by kernel_rfl
theorem shp12 : shp Try.prog 12 = some (false, 1) := by kernel_rfl
theorem zro12 : zro Try.prog 12 = some (.int .u64 0) := by kernel_rfl
theorem shp13 : shp Try.prog 13 = some (true, 2) := by kernel_rfl
theorem fld13n0 : fld Try.prog 13 0 = some (0, false, 1) := by kernel_rfl
theorem fld13n1 : fld Try.prog 13 1 = some (1, false, 1) := by kernel_rfl
theorem bok13 : bldOk Try.prog 13 = true := by kernel_rfl
theorem zro13 : zro Try.prog 13 = some (.agg #[.string ⟨#[]⟩, .int .u64 0]) := by kernel_rfl
theorem shp14 : shp Try.prog 14 = some (true, 2) := by kernel_rfl
theorem fld14n0 : fld Try.prog 14 0 = some (0, false, 1) := by kernel_rfl
theorem fld14n1 : fld Try.prog 14 1 = some (1, false, 1) := by kernel_rfl
theorem bok14 : bldOk Try.prog 14 = true := by kernel_rfl
theorem zro14 : zro Try.prog 14 = some (.agg #[.string ⟨#[]⟩, .int .u64 0]) := by kernel_rfl
theorem shp15 : shp Try.prog 15 = some (false, 1) := by kernel_rfl
theorem zro15 : zro Try.prog 15 = some (.pointer none) := by kernel_rfl
theorem shp16 : shp Try.prog 16 = some (false, 1) := by kernel_rfl
theorem zro16 : zro Try.prog 16 = some (.pointer none) := by kernel_rfl
theorem shp17 : shp Try.prog 17 = some (false, 1) := by kernel_rfl
theorem zro17 : zro Try.prog 17 = some (.pointer none) := by kernel_rfl
theorem shp18 : shp Try.prog 18 = some (true, 1) := by kernel_rfl
theorem fld18n0 : fld Try.prog 18 0 = some (0, false, 1) := by kernel_rfl
theorem bok18 : bldOk Try.prog 18 = true := by kernel_rfl
theorem zro18 : zro Try.prog 18 = some (.agg #[.pointer none]) := by kernel_rfl
theorem shp19 : shp Try.prog 19 = some (true, 1) := by kernel_rfl
theorem fld19n0 : fld Try.prog 19 0 = some (0, false, 1) := by kernel_rfl
theorem bok19 : bldOk Try.prog 19 = true := by kernel_rfl
theorem zro19 : zro Try.prog 19 = some (.agg #[.pointer none]) := by kernel_rfl
theorem shp20 : shp Try.prog 20 = some (false, 1) := by kernel_rfl
theorem zro20 : zro Try.prog 20 = some (.nilIface) := by kernel_rfl
theorem shp21 : shp Try.prog 21 = some (false, 1) := by kernel_rfl
theorem zro21 : zro Try.prog 21 = some (.int .i32 0) := by kernel_rfl
theorem shp22 : shp Try.prog 22 = some (false, 1) := by kernel_rfl
theorem zro22 : zro Try.prog 22 = some (.int .i64 0) := by kernel_rfl
theorem shp28 : shp Try.prog 28 = some (false, 1) := by kernel_rfl
theorem zro28 : zro Try.prog 28 = some (.slice none 0 0) := by kernel_rfl
theorem slc28 : slc Try.prog 28 = some (53, 7, 96) := by kernel_rfl
theorem shp29 : shp Try.prog 29 = some (false, 1) := by kernel_rfl
theorem zro29 : zro Try.prog 29 = some (.slice none 0 0) := by kernel_rfl
theorem slc29 : slc Try.prog 29 = some (40, 19, 240) := by kernel_rfl
theorem shp31 : shp Try.prog 31 = some (false, 1) := by kernel_rfl
theorem zro31 : zro Try.prog 31 = some (.pointer none) := by kernel_rfl
theorem shp34 : shp Try.prog 34 = some (true, 2) := by kernel_rfl
theorem fld34n0 : fld Try.prog 34 0 = some (0, false, 1) := by kernel_rfl
theorem fld34n1 : fld Try.prog 34 1 = some (1, false, 1) := by kernel_rfl
theorem bok34 : bldOk Try.prog 34 = true := by kernel_rfl
theorem sih34 : Try.prog.stoodInHeld 34 = false := by kernel_rfl
theorem egt34 : Try.prog.eqGuardType Try.prog.depth 34 = false := by kernel_rfl
theorem zro34 : zro Try.prog 34 = some (.agg #[.int .i64 0, .string ⟨#[]⟩]) := by kernel_rfl
theorem shp35 : shp Try.prog 35 = some (true, 2) := by kernel_rfl
theorem fld35n0 : fld Try.prog 35 0 = some (0, false, 1) := by kernel_rfl
theorem fld35n1 : fld Try.prog 35 1 = some (1, false, 1) := by kernel_rfl
theorem bok35 : bldOk Try.prog 35 = true := by kernel_rfl
theorem sih35 : Try.prog.stoodInHeld 35 = false := by kernel_rfl
theorem egt35 : Try.prog.eqGuardType Try.prog.depth 35 = false := by kernel_rfl
theorem zro35 : zro Try.prog 35 = some (.agg #[.int .i64 0, .string ⟨#[]⟩]) := by kernel_rfl
theorem shp36 : shp Try.prog 36 = some (true, 12) := by kernel_rfl
theorem fld36n0 : fld Try.prog 36 0 = some (0, false, 1) := by kernel_rfl
theorem fld36n1 : fld Try.prog 36 1 = some (1, false, 1) := by kernel_rfl
theorem fld36n2 : fld Try.prog 36 2 = some (2, false, 1) := by kernel_rfl
theorem fld36n3 : fld Try.prog 36 3 = some (3, false, 1) := by kernel_rfl
theorem fld36n4 : fld Try.prog 36 4 = some (4, false, 1) := by kernel_rfl
theorem fld36n5 : fld Try.prog 36 5 = some (5, false, 1) := by kernel_rfl
theorem fld36n6 : fld Try.prog 36 6 = some (6, false, 1) := by kernel_rfl
theorem fld36n7 : fld Try.prog 36 7 = some (7, true, 2) := by kernel_rfl
theorem fld36n8 : fld Try.prog 36 8 = some (9, false, 1) := by kernel_rfl
theorem fld36n9 : fld Try.prog 36 9 = some (10, false, 1) := by kernel_rfl
theorem fld36n10 : fld Try.prog 36 10 = some (11, false, 1) := by kernel_rfl
theorem bok36 : bldOk Try.prog 36 = true := by kernel_rfl
theorem sih36 : Try.prog.stoodInHeld 36 = false := by kernel_rfl
theorem egt36 : Try.prog.eqGuardType Try.prog.depth 36 = false := by kernel_rfl
theorem zro36 : zro Try.prog 36 = some (.agg #[.int .i64 0, .string ⟨#[]⟩, .string ⟨#[]⟩, .string ⟨#[]⟩, .string ⟨#[]⟩, .string ⟨#[]⟩, .string ⟨#[]⟩, .int .i64 0, .string ⟨#[]⟩, .int .i64 0, .int .i64 0, .bool false]) := by kernel_rfl
theorem shp37 : shp Try.prog 37 = some (true, 12) := by kernel_rfl
theorem fld37n0 : fld Try.prog 37 0 = some (0, false, 1) := by kernel_rfl
theorem fld37n1 : fld Try.prog 37 1 = some (1, false, 1) := by kernel_rfl
theorem fld37n2 : fld Try.prog 37 2 = some (2, false, 1) := by kernel_rfl
theorem fld37n3 : fld Try.prog 37 3 = some (3, false, 1) := by kernel_rfl
theorem fld37n4 : fld Try.prog 37 4 = some (4, false, 1) := by kernel_rfl
theorem fld37n5 : fld Try.prog 37 5 = some (5, false, 1) := by kernel_rfl
theorem fld37n6 : fld Try.prog 37 6 = some (6, false, 1) := by kernel_rfl
theorem fld37n7 : fld Try.prog 37 7 = some (7, true, 2) := by kernel_rfl
theorem fld37n8 : fld Try.prog 37 8 = some (9, false, 1) := by kernel_rfl
theorem fld37n9 : fld Try.prog 37 9 = some (10, false, 1) := by kernel_rfl
theorem fld37n10 : fld Try.prog 37 10 = some (11, false, 1) := by kernel_rfl
theorem bok37 : bldOk Try.prog 37 = true := by kernel_rfl
theorem sih37 : Try.prog.stoodInHeld 37 = false := by kernel_rfl
theorem egt37 : Try.prog.eqGuardType Try.prog.depth 37 = false := by kernel_rfl
theorem zro37 : zro Try.prog 37 = some (.agg #[.int .i64 0, .string ⟨#[]⟩, .string ⟨#[]⟩, .string ⟨#[]⟩, .string ⟨#[]⟩, .string ⟨#[]⟩, .string ⟨#[]⟩, .int .i64 0, .string ⟨#[]⟩, .int .i64 0, .int .i64 0, .bool false]) := by kernel_rfl
theorem shp38 : shp Try.prog 38 = some (false, 1) := by kernel_rfl
theorem zro38 : zro Try.prog 38 = some (.slice none 0 0) := by kernel_rfl
theorem slc38 : slc Try.prog 38 = some (75, 3, 32) := by kernel_rfl
theorem shp39 : shp Try.prog 39 = some (true, 19) := by kernel_rfl
theorem fld39n0 : fld Try.prog 39 0 = some (0, false, 1) := by kernel_rfl
theorem fld39n1 : fld Try.prog 39 1 = some (1, false, 1) := by kernel_rfl
theorem fld39n2 : fld Try.prog 39 2 = some (2, false, 1) := by kernel_rfl
theorem fld39n3 : fld Try.prog 39 3 = some (3, true, 12) := by kernel_rfl
theorem fld39n4 : fld Try.prog 39 4 = some (15, false, 1) := by kernel_rfl
theorem fld39n5 : fld Try.prog 39 5 = some (16, false, 1) := by kernel_rfl
theorem fld39n6 : fld Try.prog 39 6 = some (17, false, 1) := by kernel_rfl
theorem fld39n7 : fld Try.prog 39 7 = some (18, false, 1) := by kernel_rfl
theorem bok39 : bldOk Try.prog 39 = true := by kernel_rfl
theorem sih39 : Try.prog.stoodInHeld 39 = false := by kernel_rfl
theorem egt39 : Try.prog.eqGuardType Try.prog.depth 39 = false := by kernel_rfl
theorem zro39 : zro Try.prog 39 = some (.agg #[.int .u8 0, .string ⟨#[]⟩, .string ⟨#[]⟩, .int .i64 0, .string ⟨#[]⟩, .string ⟨#[]⟩, .string ⟨#[]⟩, .string ⟨#[]⟩, .string ⟨#[]⟩, .string ⟨#[]⟩, .int .i64 0, .string ⟨#[]⟩, .int .i64 0, .int .i64 0, .bool false, .int .i64 0, .int .i64 0, .int .i64 0, .slice none 0 0]) := by kernel_rfl
theorem shp40 : shp Try.prog 40 = some (true, 19) := by kernel_rfl
theorem fld40n0 : fld Try.prog 40 0 = some (0, false, 1) := by kernel_rfl
theorem fld40n1 : fld Try.prog 40 1 = some (1, false, 1) := by kernel_rfl
theorem fld40n2 : fld Try.prog 40 2 = some (2, false, 1) := by kernel_rfl
theorem fld40n3 : fld Try.prog 40 3 = some (3, true, 12) := by kernel_rfl
theorem fld40n4 : fld Try.prog 40 4 = some (15, false, 1) := by kernel_rfl
theorem fld40n5 : fld Try.prog 40 5 = some (16, false, 1) := by kernel_rfl
theorem fld40n6 : fld Try.prog 40 6 = some (17, false, 1) := by kernel_rfl
theorem fld40n7 : fld Try.prog 40 7 = some (18, false, 1) := by kernel_rfl
theorem bok40 : bldOk Try.prog 40 = true := by kernel_rfl
theorem sih40 : Try.prog.stoodInHeld 40 = false := by kernel_rfl
theorem egt40 : Try.prog.eqGuardType Try.prog.depth 40 = false := by kernel_rfl
theorem zro40 : zro Try.prog 40 = some (.agg #[.int .u8 0, .string ⟨#[]⟩, .string ⟨#[]⟩, .int .i64 0, .string ⟨#[]⟩, .string ⟨#[]⟩, .string ⟨#[]⟩, .string ⟨#[]⟩, .string ⟨#[]⟩, .string ⟨#[]⟩, .int .i64 0, .string ⟨#[]⟩, .int .i64 0, .int .i64 0, .bool false, .int .i64 0, .int .i64 0, .int .i64 0, .slice none 0 0]) := by kernel_rfl
theorem shp42 : shp Try.prog 42 = some (false, 1) := by kernel_rfl
theorem zro42 : zro Try.prog 42 = some (.slice none 0 0) := by kernel_rfl
theorem slc42 : slc Try.prog 42 = some (9, 1, 16) := by kernel_rfl
theorem shp45 : shp Try.prog 45 = some (false, 1) := by kernel_rfl
theorem zro45 : zro Try.prog 45 = some (.slice none 0 0) := by kernel_rfl
theorem slc45 : slc Try.prog 45 = some (48, 10, 128) := by kernel_rfl
theorem shp47 : shp Try.prog 47 = some (true, 10) := by kernel_rfl
theorem fld47n0 : fld Try.prog 47 0 = some (0, false, 1) := by kernel_rfl
theorem fld47n1 : fld Try.prog 47 1 = some (1, false, 1) := by kernel_rfl
theorem fld47n2 : fld Try.prog 47 2 = some (2, false, 1) := by kernel_rfl
theorem fld47n3 : fld Try.prog 47 3 = some (3, false, 1) := by kernel_rfl
theorem fld47n4 : fld Try.prog 47 4 = some (4, false, 1) := by kernel_rfl
theorem fld47n5 : fld Try.prog 47 5 = some (5, true, 2) := by kernel_rfl
theorem fld47n6 : fld Try.prog 47 6 = some (7, false, 1) := by kernel_rfl
theorem fld47n7 : fld Try.prog 47 7 = some (8, false, 1) := by kernel_rfl
theorem fld47n8 : fld Try.prog 47 8 = some (9, false, 1) := by kernel_rfl
theorem bok47 : bldOk Try.prog 47 = true := by kernel_rfl
theorem sih47 : Try.prog.stoodInHeld 47 = false := by kernel_rfl
theorem egt47 : Try.prog.eqGuardType Try.prog.depth 47 = false := by kernel_rfl
theorem zro47 : zro Try.prog 47 = some (.agg #[.string ⟨#[]⟩, .string ⟨#[]⟩, .string ⟨#[]⟩, .string ⟨#[]⟩, .string ⟨#[]⟩, .int .i64 0, .string ⟨#[]⟩, .int .i64 0, .int .i64 0, .int .i64 0]) := by kernel_rfl
theorem shp48 : shp Try.prog 48 = some (true, 10) := by kernel_rfl
theorem fld48n0 : fld Try.prog 48 0 = some (0, false, 1) := by kernel_rfl
theorem fld48n1 : fld Try.prog 48 1 = some (1, false, 1) := by kernel_rfl
theorem fld48n2 : fld Try.prog 48 2 = some (2, false, 1) := by kernel_rfl
theorem fld48n3 : fld Try.prog 48 3 = some (3, false, 1) := by kernel_rfl
theorem fld48n4 : fld Try.prog 48 4 = some (4, false, 1) := by kernel_rfl
theorem fld48n5 : fld Try.prog 48 5 = some (5, true, 2) := by kernel_rfl
theorem fld48n6 : fld Try.prog 48 6 = some (7, false, 1) := by kernel_rfl
theorem fld48n7 : fld Try.prog 48 7 = some (8, false, 1) := by kernel_rfl
theorem fld48n8 : fld Try.prog 48 8 = some (9, false, 1) := by kernel_rfl
theorem bok48 : bldOk Try.prog 48 = true := by kernel_rfl
theorem sih48 : Try.prog.stoodInHeld 48 = false := by kernel_rfl
theorem egt48 : Try.prog.eqGuardType Try.prog.depth 48 = false := by kernel_rfl
theorem zro48 : zro Try.prog 48 = some (.agg #[.string ⟨#[]⟩, .string ⟨#[]⟩, .string ⟨#[]⟩, .string ⟨#[]⟩, .string ⟨#[]⟩, .int .i64 0, .string ⟨#[]⟩, .int .i64 0, .int .i64 0, .int .i64 0]) := by kernel_rfl
theorem shp49 : shp Try.prog 49 = some (false, 1) := by kernel_rfl
theorem zro49 : zro Try.prog 49 = some (.slice none 0 0) := by kernel_rfl
theorem slc49 : slc Try.prog 49 = some (3, 1, 8) := by kernel_rfl
theorem shp52 : shp Try.prog 52 = some (true, 7) := by kernel_rfl
theorem fld52n0 : fld Try.prog 52 0 = some (0, false, 1) := by kernel_rfl
theorem fld52n1 : fld Try.prog 52 1 = some (1, false, 1) := by kernel_rfl
theorem fld52n2 : fld Try.prog 52 2 = some (2, false, 1) := by kernel_rfl
theorem fld52n3 : fld Try.prog 52 3 = some (3, false, 1) := by kernel_rfl
theorem fld52n4 : fld Try.prog 52 4 = some (4, false, 1) := by kernel_rfl
theorem fld52n5 : fld Try.prog 52 5 = some (5, false, 1) := by kernel_rfl
theorem fld52n6 : fld Try.prog 52 6 = some (6, false, 1) := by kernel_rfl
theorem bok52 : bldOk Try.prog 52 = true := by kernel_rfl
theorem sih52 : Try.prog.stoodInHeld 52 = false := by kernel_rfl
theorem egt52 : Try.prog.eqGuardType Try.prog.depth 52 = false := by kernel_rfl
theorem zro52 : zro Try.prog 52 = some (.agg #[.string ⟨#[]⟩, .int .i64 0, .int .i64 0, .int .i64 0, .int .i64 0, .slice none 0 0, .slice none 0 0]) := by kernel_rfl
theorem shp53 : shp Try.prog 53 = some (true, 7) := by kernel_rfl
theorem fld53n0 : fld Try.prog 53 0 = some (0, false, 1) := by kernel_rfl
theorem fld53n1 : fld Try.prog 53 1 = some (1, false, 1) := by kernel_rfl
theorem fld53n2 : fld Try.prog 53 2 = some (2, false, 1) := by kernel_rfl
theorem fld53n3 : fld Try.prog 53 3 = some (3, false, 1) := by kernel_rfl
theorem fld53n4 : fld Try.prog 53 4 = some (4, false, 1) := by kernel_rfl
theorem fld53n5 : fld Try.prog 53 5 = some (5, false, 1) := by kernel_rfl
theorem fld53n6 : fld Try.prog 53 6 = some (6, false, 1) := by kernel_rfl
theorem bok53 : bldOk Try.prog 53 = true := by kernel_rfl
theorem sih53 : Try.prog.stoodInHeld 53 = false := by kernel_rfl
theorem egt53 : Try.prog.eqGuardType Try.prog.depth 53 = false := by kernel_rfl
theorem zro53 : zro Try.prog 53 = some (.agg #[.string ⟨#[]⟩, .int .i64 0, .int .i64 0, .int .i64 0, .int .i64 0, .slice none 0 0, .slice none 0 0]) := by kernel_rfl
theorem shp57 : shp Try.prog 57 = some (false, 1) := by kernel_rfl
theorem zro57 : zro Try.prog 57 = some (.map none) := by kernel_rfl
theorem shp58 : shp Try.prog 58 = some (false, 1) := by kernel_rfl
theorem zro58 : zro Try.prog 58 = some (.slice none 0 0) := by kernel_rfl
theorem slc58 : slc Try.prog 58 = some (63, 12, 160) := by kernel_rfl
theorem shp59 : shp Try.prog 59 = some (true, 3) := by kernel_rfl
theorem fld59n0 : fld Try.prog 59 0 = some (0, false, 1) := by kernel_rfl
theorem fld59n1 : fld Try.prog 59 1 = some (1, false, 1) := by kernel_rfl
theorem fld59n2 : fld Try.prog 59 2 = some (2, false, 1) := by kernel_rfl
theorem bok59 : bldOk Try.prog 59 = true := by kernel_rfl
theorem sih59 : Try.prog.stoodInHeld 59 = false := by kernel_rfl
theorem egt59 : Try.prog.eqGuardType Try.prog.depth 59 = false := by kernel_rfl
theorem zro59 : zro Try.prog 59 = some (.agg #[.slice none 0 0, .slice none 0 0, .map none]) := by kernel_rfl
theorem shp60 : shp Try.prog 60 = some (true, 3) := by kernel_rfl
theorem fld60n0 : fld Try.prog 60 0 = some (0, false, 1) := by kernel_rfl
theorem fld60n1 : fld Try.prog 60 1 = some (1, false, 1) := by kernel_rfl
theorem fld60n2 : fld Try.prog 60 2 = some (2, false, 1) := by kernel_rfl
theorem bok60 : bldOk Try.prog 60 = true := by kernel_rfl
theorem sih60 : Try.prog.stoodInHeld 60 = false := by kernel_rfl
theorem egt60 : Try.prog.eqGuardType Try.prog.depth 60 = false := by kernel_rfl
theorem zro60 : zro Try.prog 60 = some (.agg #[.slice none 0 0, .slice none 0 0, .map none]) := by kernel_rfl
theorem shp62 : shp Try.prog 62 = some (true, 12) := by kernel_rfl
theorem fld62n0 : fld Try.prog 62 0 = some (0, true, 10) := by kernel_rfl
theorem fld62n1 : fld Try.prog 62 1 = some (10, false, 1) := by kernel_rfl
theorem fld62n2 : fld Try.prog 62 2 = some (11, false, 1) := by kernel_rfl
theorem bok62 : bldOk Try.prog 62 = true := by kernel_rfl
theorem sih62 : Try.prog.stoodInHeld 62 = false := by kernel_rfl
theorem egt62 : Try.prog.eqGuardType Try.prog.depth 62 = false := by kernel_rfl
theorem zro62 : zro Try.prog 62 = some (.agg #[.string ⟨#[]⟩, .string ⟨#[]⟩, .string ⟨#[]⟩, .string ⟨#[]⟩, .string ⟨#[]⟩, .int .i64 0, .string ⟨#[]⟩, .int .i64 0, .int .i64 0, .int .i64 0, .slice none 0 0, .int .i64 0]) := by kernel_rfl
theorem shp63 : shp Try.prog 63 = some (true, 12) := by kernel_rfl
theorem fld63n0 : fld Try.prog 63 0 = some (0, true, 10) := by kernel_rfl
theorem fld63n1 : fld Try.prog 63 1 = some (10, false, 1) := by kernel_rfl
theorem fld63n2 : fld Try.prog 63 2 = some (11, false, 1) := by kernel_rfl
theorem bok63 : bldOk Try.prog 63 = true := by kernel_rfl
theorem sih63 : Try.prog.stoodInHeld 63 = false := by kernel_rfl
theorem egt63 : Try.prog.eqGuardType Try.prog.depth 63 = false := by kernel_rfl
theorem zro63 : zro Try.prog 63 = some (.agg #[.string ⟨#[]⟩, .string ⟨#[]⟩, .string ⟨#[]⟩, .string ⟨#[]⟩, .string ⟨#[]⟩, .int .i64 0, .string ⟨#[]⟩, .int .i64 0, .int .i64 0, .int .i64 0, .slice none 0 0, .int .i64 0]) := by kernel_rfl
theorem shp64 : shp Try.prog 64 = some (false, 1) := by kernel_rfl
theorem zro64 : zro Try.prog 64 = some (.pointer none) := by kernel_rfl
theorem shp73 : shp Try.prog 73 = some (false, 1) := by kernel_rfl
theorem zro73 : zro Try.prog 73 = some (.int .u64 0) := by kernel_rfl
theorem shp74 : shp Try.prog 74 = some (true, 3) := by kernel_rfl
theorem fld74n0 : fld Try.prog 74 0 = some (0, false, 1) := by kernel_rfl
theorem fld74n1 : fld Try.prog 74 1 = some (1, false, 1) := by kernel_rfl
theorem fld74n2 : fld Try.prog 74 2 = some (2, false, 1) := by kernel_rfl
theorem bok74 : bldOk Try.prog 74 = true := by kernel_rfl
theorem sih74 : Try.prog.stoodInHeld 74 = false := by kernel_rfl
theorem egt74 : Try.prog.eqGuardType Try.prog.depth 74 = false := by kernel_rfl
theorem zro74 : zro Try.prog 74 = some (.agg #[.string ⟨#[]⟩, .int .i64 0, .int .u64 0]) := by kernel_rfl
theorem shp75 : shp Try.prog 75 = some (true, 3) := by kernel_rfl
theorem fld75n0 : fld Try.prog 75 0 = some (0, false, 1) := by kernel_rfl
theorem fld75n1 : fld Try.prog 75 1 = some (1, false, 1) := by kernel_rfl
theorem fld75n2 : fld Try.prog 75 2 = some (2, false, 1) := by kernel_rfl
theorem bok75 : bldOk Try.prog 75 = true := by kernel_rfl
theorem sih75 : Try.prog.stoodInHeld 75 = false := by kernel_rfl
theorem egt75 : Try.prog.eqGuardType Try.prog.depth 75 = false := by kernel_rfl
theorem zro75 : zro Try.prog 75 = some (.agg #[.string ⟨#[]⟩, .int .i64 0, .int .u64 0]) := by kernel_rfl
theorem shp81 : shp Try.prog 81 = some (false, 1) := by kernel_rfl
theorem zro81 : zro Try.prog 81 = some (.map none) := by kernel_rfl
theorem shp94 : shp Try.prog 94 = some (true, 12) := by kernel_rfl
theorem fld94n0 : fld Try.prog 94 0 = some (0, false, 1) := by kernel_rfl
theorem fld94n1 : fld Try.prog 94 1 = some (1, false, 1) := by kernel_rfl
theorem fld94n2 : fld Try.prog 94 2 = some (2, false, 1) := by kernel_rfl
theorem fld94n3 : fld Try.prog 94 3 = some (3, false, 1) := by kernel_rfl
theorem fld94n4 : fld Try.prog 94 4 = some (4, false, 1) := by kernel_rfl
theorem fld94n5 : fld Try.prog 94 5 = some (5, false, 1) := by kernel_rfl
theorem fld94n6 : fld Try.prog 94 6 = some (6, false, 1) := by kernel_rfl
theorem fld94n7 : fld Try.prog 94 7 = some (7, true, 2) := by kernel_rfl
theorem fld94n8 : fld Try.prog 94 8 = some (9, false, 1) := by kernel_rfl
theorem fld94n9 : fld Try.prog 94 9 = some (10, false, 1) := by kernel_rfl
theorem fld94n10 : fld Try.prog 94 10 = some (11, false, 1) := by kernel_rfl
theorem bok94 : bldOk Try.prog 94 = true := by kernel_rfl
theorem sih94 : Try.prog.stoodInHeld 94 = false := by kernel_rfl
theorem egt94 : Try.prog.eqGuardType Try.prog.depth 94 = false := by kernel_rfl
theorem zro94 : zro Try.prog 94 = some (.agg #[.int .i64 0, .string ⟨#[]⟩, .string ⟨#[]⟩, .string ⟨#[]⟩, .string ⟨#[]⟩, .string ⟨#[]⟩, .string ⟨#[]⟩, .int .i64 0, .string ⟨#[]⟩, .int .i64 0, .int .i64 0, .bool false]) := by kernel_rfl
theorem shp95 : shp Try.prog 95 = some (false, 1) := by kernel_rfl
theorem zro95 : zro Try.prog 95 = some (.slice none 0 0) := by kernel_rfl
theorem slc95 : slc Try.prog 95 = some (92, 1, 8) := by kernel_rfl
theorem shp102 : shp Try.prog 102 = some (false, 1) := by kernel_rfl
theorem zro102 : zro Try.prog 102 = some (.int .u64 0) := by kernel_rfl
theorem shp107 : shp Try.prog 107 = some (true, 4) := by kernel_rfl
theorem fld107n0 : fld Try.prog 107 0 = some (0, false, 1) := by kernel_rfl
theorem fld107n1 : fld Try.prog 107 1 = some (1, false, 1) := by kernel_rfl
theorem fld107n2 : fld Try.prog 107 2 = some (2, false, 1) := by kernel_rfl
theorem fld107n3 : fld Try.prog 107 3 = some (3, false, 1) := by kernel_rfl
theorem bok107 : bldOk Try.prog 107 = true := by kernel_rfl
theorem zro107 : zro Try.prog 107 = some (.agg #[.pointer none, .pointer none, .pointer none, .string ⟨#[]⟩]) := by kernel_rfl
theorem shp108 : shp Try.prog 108 = some (true, 4) := by kernel_rfl
theorem fld108n0 : fld Try.prog 108 0 = some (0, false, 1) := by kernel_rfl
theorem fld108n1 : fld Try.prog 108 1 = some (1, false, 1) := by kernel_rfl
theorem fld108n2 : fld Try.prog 108 2 = some (2, false, 1) := by kernel_rfl
theorem fld108n3 : fld Try.prog 108 3 = some (3, false, 1) := by kernel_rfl
theorem bok108 : bldOk Try.prog 108 = true := by kernel_rfl
theorem zro108 : zro Try.prog 108 = some (.agg #[.pointer none, .pointer none, .pointer none, .string ⟨#[]⟩]) := by kernel_rfl
theorem shp109 : shp Try.prog 109 = some (true, 0) := by kernel_rfl
theorem bok109 : bldOk Try.prog 109 = false := by kernel_rfl
theorem zro109 : zro Try.prog 109 = some (.agg #[]) := by kernel_rfl
theorem shp110 : shp Try.prog 110 = some (true, 0) := by kernel_rfl
theorem fld110n0 : fld Try.prog 110 0 = some (0, true, 0) := by kernel_rfl
theorem bok110 : bldOk Try.prog 110 = true := by kernel_rfl
theorem zro110 : zro Try.prog 110 = some (.agg #[]) := by kernel_rfl
theorem shp111 : shp Try.prog 111 = some (true, 0) := by kernel_rfl
theorem fld111n0 : fld Try.prog 111 0 = some (0, true, 0) := by kernel_rfl
theorem bok111 : bldOk Try.prog 111 = true := by kernel_rfl
theorem zro111 : zro Try.prog 111 = some (.agg #[]) := by kernel_rfl
theorem shp113 : shp Try.prog 113 = some (false, 1) := by kernel_rfl
theorem zro113 : zro Try.prog 113 = some (.int .u32 0) := by kernel_rfl
theorem shp114 : shp Try.prog 114 = some (false, 1) := by kernel_rfl
theorem zro114 : zro Try.prog 114 = some (.int .u8 0) := by kernel_rfl
theorem shp115 : shp Try.prog 115 = some (false, 1) := by kernel_rfl
theorem zro115 : zro Try.prog 115 = some (.int .u8 0) := by kernel_rfl
theorem shp117 : shp Try.prog 117 = some (false, 1) := by kernel_rfl
theorem zro117 : zro Try.prog 117 = some (.pointer none) := by kernel_rfl
theorem shp118 : shp Try.prog 118 = some (false, 1) := by kernel_rfl
theorem zro118 : zro Try.prog 118 = some (.int .i32 0) := by kernel_rfl
theorem shp119 : shp Try.prog 119 = some (false, 1) := by kernel_rfl
theorem zro119 : zro Try.prog 119 = some (.int .i32 0) := by kernel_rfl
theorem shp120 : shp Try.prog 120 = some (true, 11) := by kernel_rfl
theorem fld120n0 : fld Try.prog 120 0 = some (0, false, 1) := by kernel_rfl
theorem fld120n1 : fld Try.prog 120 1 = some (1, false, 1) := by kernel_rfl
theorem fld120n2 : fld Try.prog 120 2 = some (2, false, 1) := by kernel_rfl
theorem fld120n3 : fld Try.prog 120 3 = some (3, false, 1) := by kernel_rfl
theorem fld120n4 : fld Try.prog 120 4 = some (4, false, 1) := by kernel_rfl
theorem fld120n5 : fld Try.prog 120 5 = some (5, false, 1) := by kernel_rfl
theorem fld120n6 : fld Try.prog 120 6 = some (6, false, 1) := by kernel_rfl
theorem fld120n7 : fld Try.prog 120 7 = some (7, false, 1) := by kernel_rfl
theorem fld120n8 : fld Try.prog 120 8 = some (8, false, 1) := by kernel_rfl
theorem fld120n9 : fld Try.prog 120 9 = some (9, false, 1) := by kernel_rfl
theorem fld120n10 : fld Try.prog 120 10 = some (10, false, 1) := by kernel_rfl
theorem bok120 : bldOk Try.prog 120 = true := by kernel_rfl
theorem zro120 : zro Try.prog 120 = some (.agg #[.int .u64 0, .int .u64 0, .int .u32 0, .int .u8 0, .int .u8 0, .int .u8 0, .int .u8 0, .nilFunc, .pointer none, .int .i32 0, .int .i32 0]) := by kernel_rfl
theorem shp121 : shp Try.prog 121 = some (true, 11) := by kernel_rfl
theorem fld121n0 : fld Try.prog 121 0 = some (0, false, 1) := by kernel_rfl
theorem fld121n1 : fld Try.prog 121 1 = some (1, false, 1) := by kernel_rfl
theorem fld121n2 : fld Try.prog 121 2 = some (2, false, 1) := by kernel_rfl
theorem fld121n3 : fld Try.prog 121 3 = some (3, false, 1) := by kernel_rfl
theorem fld121n4 : fld Try.prog 121 4 = some (4, false, 1) := by kernel_rfl
theorem fld121n5 : fld Try.prog 121 5 = some (5, false, 1) := by kernel_rfl
theorem fld121n6 : fld Try.prog 121 6 = some (6, false, 1) := by kernel_rfl
theorem fld121n7 : fld Try.prog 121 7 = some (7, false, 1) := by kernel_rfl
theorem fld121n8 : fld Try.prog 121 8 = some (8, false, 1) := by kernel_rfl
theorem fld121n9 : fld Try.prog 121 9 = some (9, false, 1) := by kernel_rfl
theorem fld121n10 : fld Try.prog 121 10 = some (10, false, 1) := by kernel_rfl
theorem bok121 : bldOk Try.prog 121 = true := by kernel_rfl
theorem zro121 : zro Try.prog 121 = some (.agg #[.int .u64 0, .int .u64 0, .int .u32 0, .int .u8 0, .int .u8 0, .int .u8 0, .int .u8 0, .nilFunc, .pointer none, .int .i32 0, .int .i32 0]) := by kernel_rfl
theorem shp122 : shp Try.prog 122 = some (false, 1) := by kernel_rfl
theorem zro122 : zro Try.prog 122 = some (.pointer none) := by kernel_rfl
theorem cal2 : callable Try.prog 2 = true := by kernel_rfl
theorem cal3 : callable Try.prog 3 = true := by kernel_rfl
theorem cal4 : callable Try.prog 4 = true := by kernel_rfl
theorem cal5 : callable Try.prog 5 = true := by kernel_rfl
theorem cal6 : callable Try.prog 6 = true := by kernel_rfl
theorem cal7 : callable Try.prog 7 = true := by kernel_rfl
theorem cal8 : callable Try.prog 8 = true := by kernel_rfl
theorem cal9 : callable Try.prog 9 = true := by kernel_rfl
theorem cal10 : callable Try.prog 10 = true := by kernel_rfl
theorem cal11 : callable Try.prog 11 = true := by kernel_rfl
theorem cal12 : callable Try.prog 12 = true := by kernel_rfl
theorem cal13 : callable Try.prog 13 = true := by kernel_rfl
theorem cal14 : callable Try.prog 14 = true := by kernel_rfl
theorem cal15 : callable Try.prog 15 = true := by kernel_rfl
theorem cal16 : callable Try.prog 16 = true := by kernel_rfl
theorem cal17 : callable Try.prog 17 = true := by kernel_rfl
theorem cal18 : callable Try.prog 18 = true := by kernel_rfl
theorem cal19 : callable Try.prog 19 = true := by kernel_rfl
theorem cal20 : callable Try.prog 20 = true := by kernel_rfl
theorem cal21 : callable Try.prog 21 = true := by kernel_rfl
theorem cal22 : callable Try.prog 22 = true := by kernel_rfl
theorem cal23 : callable Try.prog 23 = true := by kernel_rfl
theorem cal24 : callable Try.prog 24 = true := by kernel_rfl
theorem cal25 : callable Try.prog 25 = true := by kernel_rfl
theorem cal26 : callable Try.prog 26 = true := by kernel_rfl
theorem cal27 : callable Try.prog 27 = true := by kernel_rfl
theorem cal28 : callable Try.prog 28 = true := by kernel_rfl
theorem cal29 : callable Try.prog 29 = true := by kernel_rfl
theorem cal30 : callable Try.prog 30 = true := by kernel_rfl
theorem cal31 : callable Try.prog 31 = true := by kernel_rfl
theorem cal32 : callable Try.prog 32 = true := by kernel_rfl
theorem cal33 : callable Try.prog 33 = true := by kernel_rfl
theorem cal34 : callable Try.prog 34 = true := by kernel_rfl
theorem cal35 : callable Try.prog 35 = true := by kernel_rfl
theorem cal36 : callable Try.prog 36 = true := by kernel_rfl
theorem cal37 : callable Try.prog 37 = true := by kernel_rfl
theorem cal38 : callable Try.prog 38 = true := by kernel_rfl
theorem cal39 : callable Try.prog 39 = true := by kernel_rfl
theorem cal40 : callable Try.prog 40 = true := by kernel_rfl
theorem cal41 : callable Try.prog 41 = true := by kernel_rfl
theorem cal42 : callable Try.prog 42 = true := by kernel_rfl
theorem cal43 : callable Try.prog 43 = true := by kernel_rfl
theorem cal44 : callable Try.prog 44 = true := by kernel_rfl
theorem cal45 : callable Try.prog 45 = true := by kernel_rfl
theorem cal46 : callable Try.prog 46 = true := by kernel_rfl
theorem cal47 : callable Try.prog 47 = true := by kernel_rfl
theorem cal48 : callable Try.prog 48 = true := by kernel_rfl
theorem cal49 : callable Try.prog 49 = true := by kernel_rfl
theorem cal50 : callable Try.prog 50 = true := by kernel_rfl
theorem cal51 : callable Try.prog 51 = true := by kernel_rfl
theorem cal52 : callable Try.prog 52 = true := by kernel_rfl
theorem cal53 : callable Try.prog 53 = true := by kernel_rfl
theorem cal54 : callable Try.prog 54 = true := by kernel_rfl
theorem cal55 : callable Try.prog 55 = true := by kernel_rfl
theorem cal56 : callable Try.prog 56 = true := by kernel_rfl
theorem cal57 : callable Try.prog 57 = true := by kernel_rfl
theorem cal58 : callable Try.prog 58 = true := by kernel_rfl
theorem cal59 : callable Try.prog 59 = true := by kernel_rfl
theorem cal61 : callable Try.prog 61 = true := by kernel_rfl
theorem cal62 : callable Try.prog 62 = true := by kernel_rfl
theorem cal63 : callable Try.prog 63 = true := by kernel_rfl
theorem cal64 : callable Try.prog 64 = true := by kernel_rfl
theorem cal65 : callable Try.prog 65 = true := by kernel_rfl
theorem cal66 : callable Try.prog 66 = true := by kernel_rfl
theorem cal0 : callable Try.prog 0 = false := by kernel_rfl
theorem cal1 : callable Try.prog 1 = false := by kernel_rfl
theorem cal60 : callable Try.prog 60 = false := by kernel_rfl
theorem cal67 : callable Try.prog 67 = false := by kernel_rfl
theorem cal68 : callable Try.prog 68 = false := by kernel_rfl
theorem cal69 : callable Try.prog 69 = false := by kernel_rfl
theorem cal70 : callable Try.prog 70 = false := by kernel_rfl
theorem cal71 : callable Try.prog 71 = false := by kernel_rfl
theorem cal72 : callable Try.prog 72 = false := by kernel_rfl
theorem cal73 : callable Try.prog 73 = false := by kernel_rfl
theorem cal74 : callable Try.prog 74 = false := by kernel_rfl
theorem cal75 : callable Try.prog 75 = false := by kernel_rfl
theorem cal76 : callable Try.prog 76 = false := by kernel_rfl
theorem cal77 : callable Try.prog 77 = false := by kernel_rfl
theorem cal78 : callable Try.prog 78 = false := by kernel_rfl
theorem cal79 : callable Try.prog 79 = false := by kernel_rfl
theorem cal80 : callable Try.prog 80 = false := by kernel_rfl
theorem cal81 : callable Try.prog 81 = false := by kernel_rfl
theorem cal82 : callable Try.prog 82 = false := by kernel_rfl
theorem cal83 : callable Try.prog 83 = false := by kernel_rfl
theorem tyS0 : type_of% (And.intro @shp2 (And.intro @zro2 (And.intro @shp3 (And.intro @zro3 (And.intro @shp4 (And.intro @zro4 (And.intro @shp5 (And.intro @zro5 (And.intro @shp6 (And.intro @zro6 (And.intro @shp7 (And.intro @fld7n0 (And.intro @fld7n1 (And.intro @fld7n2 (And.intro @fld7n3 (And.intro @bok7 (And.intro @zro7 (And.intro @shp8 (And.intro @fld8n0 (And.intro @fld8n1 (And.intro @fld8n2 (And.intro @fld8n3 (And.intro @bok8 (And.intro @zro8 (And.intro @shp9 (And.intro @zro9 (And.intro @shp10 (And.intro @zro10 (And.intro @shp11 (And.intro @zro11 (And.intro @shp12 (And.intro @zro12 (And.intro @shp13 (And.intro @fld13n0 (And.intro @fld13n1 (And.intro @bok13 (And.intro @zro13 (And.intro @shp14 (And.intro @fld14n0 (And.intro @fld14n1 (And.intro @bok14 (And.intro @zro14 (And.intro @shp15 (And.intro @zro15 (And.intro @shp16 (And.intro @zro16 (And.intro @shp17 (And.intro @zro17 (And.intro @shp18 (And.intro @fld18n0 (And.intro @bok18 (And.intro @zro18 (And.intro @shp19 (And.intro @fld19n0 (And.intro @bok19 (And.intro @zro19 (And.intro @shp20 (And.intro @zro20 (And.intro @shp21 (And.intro @zro21 (And.intro @shp22 (And.intro @zro22 (And.intro @shp28 (And.intro @zro28 (And.intro @slc28 (And.intro @shp29 (And.intro @zro29 (And.intro @slc29 (And.intro @shp31 (And.intro @zro31 (And.intro @shp34 (And.intro @fld34n0 (And.intro @fld34n1 (And.intro @bok34 (And.intro @sih34 (And.intro @egt34 (And.intro @zro34 (And.intro @shp35 (And.intro @fld35n0 (And.intro @fld35n1 (And.intro @bok35 (And.intro @sih35 (And.intro @egt35 (And.intro @zro35 (And.intro @shp36 (And.intro @fld36n0 (And.intro @fld36n1 (And.intro @fld36n2 (And.intro @fld36n3 (And.intro @fld36n4 (And.intro @fld36n5 (And.intro @fld36n6 (And.intro @fld36n7 (And.intro @fld36n8 (And.intro @fld36n9 (And.intro @fld36n10 (And.intro @bok36 (And.intro @sih36 (And.intro @egt36 (@zro36)))))))))))))))))))))))))))))))))))))))))))))))))))))))))))))))))))))))))))))))))))))))))))))))))))) := And.intro @shp2 (And.intro @zro2 (And.intro @shp3 (And.intro @zro3 (And.intro @shp4 (And.intro @zro4 (And.intro @shp5 (And.intro @zro5 (And.intro @shp6 (And.intro @zro6 (And.intro @shp7 (And.intro @fld7n0 (And.intro @fld7n1 (And.intro @fld7n2 (And.intro @fld7n3 (And.intro @bok7 (And.intro @zro7 (And.intro @shp8 (And.intro @fld8n0 (And.intro @fld8n1 (And.intro @fld8n2 (And.intro @fld8n3 (And.intro @bok8 (And.intro @zro8 (And.intro @shp9 (And.intro @zro9 (And.intro @shp10 (And.intro @zro10 (And.intro @shp11 (And.intro @zro11 (And.intro @shp12 (And.intro @zro12 (And.intro @shp13 (And.intro @fld13n0 (And.intro @fld13n1 (And.intro @bok13 (And.intro @zro13 (And.intro @shp14 (And.intro @fld14n0 (And.intro @fld14n1 (And.intro @bok14 (And.intro @zro14 (And.intro @shp15 (And.intro @zro15 (And.intro @shp16 (And.intro @zro16 (And.intro @shp17 (And.intro @zro17 (And.intro @shp18 (And.intro @fld18n0 (And.intro @bok18 (And.intro @zro18 (And.intro @shp19 (And.intro @fld19n0 (And.intro @bok19 (And.intro @zro19 (And.intro @shp20 (And.intro @zro20 (And.intro @shp21 (And.intro @zro21 (And.intro @shp22 (And.intro @zro22 (And.intro @shp28 (And.intro @zro28 (And.intro @slc28 (And.intro @shp29 (And.intro @zro29 (And.intro @slc29 (And.intro @shp31 (And.intro @zro31 (And.intro @shp34 (And.intro @fld34n0 (And.intro @fld34n1 (And.intro @bok34 (And.intro @sih34 (And.intro @egt34 (And.intro @zro34 (And.intro @shp35 (And.intro @fld35n0 (And.intro @fld35n1 (And.intro @bok35 (And.intro @sih35 (And.intro @egt35 (And.intro @zro35 (And.intro @shp36 (And.intro @fld36n0 (And.intro @fld36n1 (And.intro @fld36n2 (And.intro @fld36n3 (And.intro @fld36n4 (And.intro @fld36n5 (And.intro @fld36n6 (And.intro @fld36n7 (And.intro @fld36n8 (And.intro @fld36n9 (And.intro @fld36n10 (And.intro @bok36 (And.intro @sih36 (And.intro @egt36 (@zro36)))))))))))))))))))))))))))))))))))))))))))))))))))))))))))))))))))))))))))))))))))))))))))))))))))
theorem tyS1 : type_of% (And.intro @shp37 (And.intro @fld37n0 (And.intro @fld37n1 (And.intro @fld37n2 (And.intro @fld37n3 (And.intro @fld37n4 (And.intro @fld37n5 (And.intro @fld37n6 (And.intro @fld37n7 (And.intro @fld37n8 (And.intro @fld37n9 (And.intro @fld37n10 (And.intro @bok37 (And.intro @sih37 (And.intro @egt37 (And.intro @zro37 (And.intro @shp38 (And.intro @zro38 (And.intro @slc38 (And.intro @shp39 (And.intro @fld39n0 (And.intro @fld39n1 (And.intro @fld39n2 (And.intro @fld39n3 (And.intro @fld39n4 (And.intro @fld39n5 (And.intro @fld39n6 (And.intro @fld39n7 (And.intro @bok39 (And.intro @sih39 (And.intro @egt39 (And.intro @zro39 (And.intro @shp40 (And.intro @fld40n0 (And.intro @fld40n1 (And.intro @fld40n2 (And.intro @fld40n3 (And.intro @fld40n4 (And.intro @fld40n5 (And.intro @fld40n6 (And.intro @fld40n7 (And.intro @bok40 (And.intro @sih40 (And.intro @egt40 (And.intro @zro40 (And.intro @shp42 (And.intro @zro42 (And.intro @slc42 (And.intro @shp45 (And.intro @zro45 (And.intro @slc45 (And.intro @shp47 (And.intro @fld47n0 (And.intro @fld47n1 (And.intro @fld47n2 (And.intro @fld47n3 (And.intro @fld47n4 (And.intro @fld47n5 (And.intro @fld47n6 (And.intro @fld47n7 (And.intro @fld47n8 (And.intro @bok47 (And.intro @sih47 (And.intro @egt47 (And.intro @zro47 (And.intro @shp48 (And.intro @fld48n0 (And.intro @fld48n1 (And.intro @fld48n2 (And.intro @fld48n3 (And.intro @fld48n4 (And.intro @fld48n5 (And.intro @fld48n6 (And.intro @fld48n7 (And.intro @fld48n8 (And.intro @bok48 (And.intro @sih48 (And.intro @egt48 (And.intro @zro48 (And.intro @shp49 (And.intro @zro49 (And.intro @slc49 (And.intro @shp52 (And.intro @fld52n0 (And.intro @fld52n1 (And.intro @fld52n2 (And.intro @fld52n3 (And.intro @fld52n4 (And.intro @fld52n5 (And.intro @fld52n6 (And.intro @bok52 (And.intro @sih52 (And.intro @egt52 (And.intro @zro52 (And.intro @shp53 (And.intro @fld53n0 (And.intro @fld53n1 (And.intro @fld53n2 (And.intro @fld53n3 (@fld53n4)))))))))))))))))))))))))))))))))))))))))))))))))))))))))))))))))))))))))))))))))))))))))))))))))))) := And.intro @shp37 (And.intro @fld37n0 (And.intro @fld37n1 (And.intro @fld37n2 (And.intro @fld37n3 (And.intro @fld37n4 (And.intro @fld37n5 (And.intro @fld37n6 (And.intro @fld37n7 (And.intro @fld37n8 (And.intro @fld37n9 (And.intro @fld37n10 (And.intro @bok37 (And.intro @sih37 (And.intro @egt37 (And.intro @zro37 (And.intro @shp38 (And.intro @zro38 (And.intro @slc38 (And.intro @shp39 (And.intro @fld39n0 (And.intro @fld39n1 (And.intro @fld39n2 (And.intro @fld39n3 (And.intro @fld39n4 (And.intro @fld39n5 (And.intro @fld39n6 (And.intro @fld39n7 (And.intro @bok39 (And.intro @sih39 (And.intro @egt39 (And.intro @zro39 (And.intro @shp40 (And.intro @fld40n0 (And.intro @fld40n1 (And.intro @fld40n2 (And.intro @fld40n3 (And.intro @fld40n4 (And.intro @fld40n5 (And.intro @fld40n6 (And.intro @fld40n7 (And.intro @bok40 (And.intro @sih40 (And.intro @egt40 (And.intro @zro40 (And.intro @shp42 (And.intro @zro42 (And.intro @slc42 (And.intro @shp45 (And.intro @zro45 (And.intro @slc45 (And.intro @shp47 (And.intro @fld47n0 (And.intro @fld47n1 (And.intro @fld47n2 (And.intro @fld47n3 (And.intro @fld47n4 (And.intro @fld47n5 (And.intro @fld47n6 (And.intro @fld47n7 (And.intro @fld47n8 (And.intro @bok47 (And.intro @sih47 (And.intro @egt47 (And.intro @zro47 (And.intro @shp48 (And.intro @fld48n0 (And.intro @fld48n1 (And.intro @fld48n2 (And.intro @fld48n3 (And.intro @fld48n4 (And.intro @fld48n5 (And.intro @fld48n6 (And.intro @fld48n7 (And.intro @fld48n8 (And.intro @bok48 (And.intro @sih48 (And.intro @egt48 (And.intro @zro48 (And.intro @shp49 (And.intro @zro49 (And.intro @slc49 (And.intro @shp52 (And.intro @fld52n0 (And.intro @fld52n1 (And.intro @fld52n2 (And.intro @fld52n3 (And.intro @fld52n4 (And.intro @fld52n5 (And.intro @fld52n6 (And.intro @bok52 (And.intro @sih52 (And.intro @egt52 (And.intro @zro52 (And.intro @shp53 (And.intro @fld53n0 (And.intro @fld53n1 (And.intro @fld53n2 (And.intro @fld53n3 (@fld53n4)))))))))))))))))))))))))))))))))))))))))))))))))))))))))))))))))))))))))))))))))))))))))))))))))))
theorem tyS2 : type_of% (And.intro @fld53n5 (And.intro @fld53n6 (And.intro @bok53 (And.intro @sih53 (And.intro @egt53 (And.intro @zro53 (And.intro @shp57 (And.intro @zro57 (And.intro @shp58 (And.intro @zro58 (And.intro @slc58 (And.intro @shp59 (And.intro @fld59n0 (And.intro @fld59n1 (And.intro @fld59n2 (And.intro @bok59 (And.intro @sih59 (And.intro @egt59 (And.intro @zro59 (And.intro @shp60 (And.intro @fld60n0 (And.intro @fld60n1 (And.intro @fld60n2 (And.intro @bok60 (And.intro @sih60 (And.intro @egt60 (And.intro @zro60 (And.intro @shp62 (And.intro @fld62n0 (And.intro @fld62n1 (And.intro @fld62n2 (And.intro @bok62 (And.intro @sih62 (And.intro @egt62 (And.intro @zro62 (And.intro @shp63 (And.intro @fld63n0 (And.intro @fld63n1 (And.intro @fld63n2 (And.intro @bok63 (And.intro @sih63 (And.intro @egt63 (And.intro @zro63 (And.intro @shp64 (And.intro @zro64 (And.intro @shp73 (And.intro @zro73 (And.intro @shp74 (And.intro @fld74n0 (And.intro @fld74n1 (And.intro @fld74n2 (And.intro @bok74 (And.intro @sih74 (And.intro @egt74 (And.intro @zro74 (And.intro @shp75 (And.intro @fld75n0 (And.intro @fld75n1 (And.intro @fld75n2 (And.intro @bok75 (And.intro @sih75 (And.intro @egt75 (And.intro @zro75 (And.intro @shp81 (And.intro @zro81 (And.intro @shp94 (And.intro @fld94n0 (And.intro @fld94n1 (And.intro @fld94n2 (And.intro @fld94n3 (And.intro @fld94n4 (And.intro @fld94n5 (And.intro @fld94n6 (And.intro @fld94n7 (And.intro @fld94n8 (And.intro @fld94n9 (And.intro @fld94n10 (And.intro @bok94 (And.intro @sih94 (And.intro @egt94 (And.intro @zro94 (And.intro @shp95 (And.intro @zro95 (And.intro @slc95 (And.intro @shp102 (And.intro @zro102 (And.intro @shp107 (And.intro @fld107n0 (And.intro @fld107n1 (And.intro @fld107n2 (And.intro @fld107n3 (And.intro @bok107 (And.intro @zro107 (And.intro @shp108 (And.intro @fld108n0 (And.intro @fld108n1 (And.intro @fld108n2 (And.intro @fld108n3 (And.intro @bok108 (@zro108)))))))))))))))))))))))))))))))))))))))))))))))))))))))))))))))))))))))))))))))))))))))))))))))))))) := And.intro @fld53n5 (And.intro @fld53n6 (And.intro @bok53 (And.intro @sih53 (And.intro @egt53 (And.intro @zro53 (And.intro @shp57 (And.intro @zro57 (And.intro @shp58 (And.intro @zro58 (And.intro @slc58 (And.intro @shp59 (And.intro @fld59n0 (And.intro @fld59n1 (And.intro @fld59n2 (And.intro @bok59 (And.intro @sih59 (And.intro @egt59 (And.intro @zro59 (And.intro @shp60 (And.intro @fld60n0 (And.intro @fld60n1 (And.intro @fld60n2 (And.intro @bok60 (And.intro @sih60 (And.intro @egt60 (And.intro @zro60 (And.intro @shp62 (And.intro @fld62n0 (And.intro @fld62n1 (And.intro @fld62n2 (And.intro @bok62 (And.intro @sih62 (And.intro @egt62 (And.intro @zro62 (And.intro @shp63 (And.intro @fld63n0 (And.intro @fld63n1 (And.intro @fld63n2 (And.intro @bok63 (And.intro @sih63 (And.intro @egt63 (And.intro @zro63 (And.intro @shp64 (And.intro @zro64 (And.intro @shp73 (And.intro @zro73 (And.intro @shp74 (And.intro @fld74n0 (And.intro @fld74n1 (And.intro @fld74n2 (And.intro @bok74 (And.intro @sih74 (And.intro @egt74 (And.intro @zro74 (And.intro @shp75 (And.intro @fld75n0 (And.intro @fld75n1 (And.intro @fld75n2 (And.intro @bok75 (And.intro @sih75 (And.intro @egt75 (And.intro @zro75 (And.intro @shp81 (And.intro @zro81 (And.intro @shp94 (And.intro @fld94n0 (And.intro @fld94n1 (And.intro @fld94n2 (And.intro @fld94n3 (And.intro @fld94n4 (And.intro @fld94n5 (And.intro @fld94n6 (And.intro @fld94n7 (And.intro @fld94n8 (And.intro @fld94n9 (And.intro @fld94n10 (And.intro @bok94 (And.intro @sih94 (And.intro @egt94 (And.intro @zro94 (And.intro @shp95 (And.intro @zro95 (And.intro @slc95 (And.intro @shp102 (And.intro @zro102 (And.intro @shp107 (And.intro @fld107n0 (And.intro @fld107n1 (And.intro @fld107n2 (And.intro @fld107n3 (And.intro @bok107 (And.intro @zro107 (And.intro @shp108 (And.intro @fld108n0 (And.intro @fld108n1 (And.intro @fld108n2 (And.intro @fld108n3 (And.intro @bok108 (@zro108)))))))))))))))))))))))))))))))))))))))))))))))))))))))))))))))))))))))))))))))))))))))))))))))))))
theorem tyS3 : type_of% (And.intro @shp109 (And.intro @bok109 (And.intro @zro109 (And.intro @shp110 (And.intro @fld110n0 (And.intro @bok110 (And.intro @zro110 (And.intro @shp111 (And.intro @fld111n0 (And.intro @bok111 (And.intro @zro111 (And.intro @shp113 (And.intro @zro113 (And.intro @shp114 (And.intro @zro114 (And.intro @shp115 (And.intro @zro115 (And.intro @shp117 (And.intro @zro117 (And.intro @shp118 (And.intro @zro118 (And.intro @shp119 (And.intro @zro119 (And.intro @shp120 (And.intro @fld120n0 (And.intro @fld120n1 (And.intro @fld120n2 (And.intro @fld120n3 (And.intro @fld120n4 (And.intro @fld120n5 (And.intro @fld120n6 (And.intro @fld120n7 (And.intro @fld120n8 (And.intro @fld120n9 (And.intro @fld120n10 (And.intro @bok120 (And.intro @zro120 (And.intro @shp121 (And.intro @fld121n0 (And.intro @fld121n1 (And.intro @fld121n2 (And.intro @fld121n3 (And.intro @fld121n4 (And.intro @fld121n5 (And.intro @fld121n6 (And.intro @fld121n7 (And.intro @fld121n8 (And.intro @fld121n9 (And.intro @fld121n10 (And.intro @bok121 (And.intro @zro121 (And.intro @shp122 (And.intro @zro122 (And.intro @cal2 (And.intro @cal3 (And.intro @cal4 (And.intro @cal5 (And.intro @cal6 (And.intro @cal7 (And.intro @cal8 (And.intro @cal9 (And.intro @cal10 (And.intro @cal11 (And.intro @cal12 (And.intro @cal13 (And.intro @cal14 (And.intro @cal15 (And.intro @cal16 (And.intro @cal17 (And.intro @cal18 (And.intro @cal19 (And.intro @cal20 (And.intro @cal21 (And.intro @cal22 (And.intro @cal23 (And.intro @cal24 (And.intro @cal25 (And.intro @cal26 (And.intro @cal27 (And.intro @cal28 (And.intro @cal29 (And.intro @cal30 (And.intro @cal31 (And.intro @cal32 (And.intro @cal33 (And.intro @cal34 (And.intro @cal35 (And.intro @cal36 (And.intro @cal37 (And.intro @cal38 (And.intro @cal39 (And.intro @cal40 (And.intro @cal41 (And.intro @cal42 (And.intro @cal43 (And.intro @cal44 (And.intro @cal45 (And.intro @cal46 (And.intro @cal47 (@cal48)))))))))))))))))))))))))))))))))))))))))))))))))))))))))))))))))))))))))))))))))))))))))))))))))))) := And.intro @shp109 (And.intro @bok109 (And.intro @zro109 (And.intro @shp110 (And.intro @fld110n0 (And.intro @bok110 (And.intro @zro110 (And.intro @shp111 (And.intro @fld111n0 (And.intro @bok111 (And.intro @zro111 (And.intro @shp113 (And.intro @zro113 (And.intro @shp114 (And.intro @zro114 (And.intro @shp115 (And.intro @zro115 (And.intro @shp117 (And.intro @zro117 (And.intro @shp118 (And.intro @zro118 (And.intro @shp119 (And.intro @zro119 (And.intro @shp120 (And.intro @fld120n0 (And.intro @fld120n1 (And.intro @fld120n2 (And.intro @fld120n3 (And.intro @fld120n4 (And.intro @fld120n5 (And.intro @fld120n6 (And.intro @fld120n7 (And.intro @fld120n8 (And.intro @fld120n9 (And.intro @fld120n10 (And.intro @bok120 (And.intro @zro120 (And.intro @shp121 (And.intro @fld121n0 (And.intro @fld121n1 (And.intro @fld121n2 (And.intro @fld121n3 (And.intro @fld121n4 (And.intro @fld121n5 (And.intro @fld121n6 (And.intro @fld121n7 (And.intro @fld121n8 (And.intro @fld121n9 (And.intro @fld121n10 (And.intro @bok121 (And.intro @zro121 (And.intro @shp122 (And.intro @zro122 (And.intro @cal2 (And.intro @cal3 (And.intro @cal4 (And.intro @cal5 (And.intro @cal6 (And.intro @cal7 (And.intro @cal8 (And.intro @cal9 (And.intro @cal10 (And.intro @cal11 (And.intro @cal12 (And.intro @cal13 (And.intro @cal14 (And.intro @cal15 (And.intro @cal16 (And.intro @cal17 (And.intro @cal18 (And.intro @cal19 (And.intro @cal20 (And.intro @cal21 (And.intro @cal22 (And.intro @cal23 (And.intro @cal24 (And.intro @cal25 (And.intro @cal26 (And.intro @cal27 (And.intro @cal28 (And.intro @cal29 (And.intro @cal30 (And.intro @cal31 (And.intro @cal32 (And.intro @cal33 (And.intro @cal34 (And.intro @cal35 (And.intro @cal36 (And.intro @cal37 (And.intro @cal38 (And.intro @cal39 (And.intro @cal40 (And.intro @cal41 (And.intro @cal42 (And.intro @cal43 (And.intro @cal44 (And.intro @cal45 (And.intro @cal46 (And.intro @cal47 (@cal48)))))))))))))))))))))))))))))))))))))))))))))))))))))))))))))))))))))))))))))))))))))))))))))))))))
theorem tyS4 : type_of% (And.intro @cal49 (And.intro @cal50 (And.intro @cal51 (And.intro @cal52 (And.intro @cal53 (And.intro @cal54 (And.intro @cal55 (And.intro @cal56 (And.intro @cal57 (And.intro @cal58 (And.intro @cal59 (And.intro @cal61 (And.intro @cal62 (And.intro @cal63 (And.intro @cal64 (And.intro @cal65 (And.intro @cal66 (And.intro @cal0 (And.intro @cal1 (And.intro @cal60 (And.intro @cal67 (And.intro @cal68 (And.intro @cal69 (And.intro @cal70 (And.intro @cal71 (And.intro @cal72 (And.intro @cal73 (And.intro @cal74 (And.intro @cal75 (And.intro @cal76 (And.intro @cal77 (And.intro @cal78 (And.intro @cal79 (And.intro @cal80 (And.intro @cal81 (And.intro @cal82 (And.intro @cal83 (And.intro @Try.underlying2 (And.intro @Try.underlying3 (And.intro @Try.underlying4 (And.intro @Try.underlying5 (And.intro @Try.underlying6 (And.intro @Try.underlying7 (And.intro @Try.underlying8 (And.intro @Try.underlying9 (And.intro @Try.underlying10 (And.intro @Try.underlying11 (And.intro @Try.underlying12 (And.intro @Try.underlying13 (And.intro @Try.underlying14 (And.intro @Try.underlying15 (And.intro @Try.underlying16 (And.intro @Try.underlying17 (And.intro @Try.underlying18 (And.intro @Try.underlying19 (And.intro @Try.underlying21 (And.intro @Try.underlying22 (And.intro @Try.underlying28 (And.intro @Try.underlying29 (And.intro @Try.underlying31 (And.intro @Try.underlying34 (And.intro @Try.underlying35 (And.intro @Try.underlying36 (And.intro @Try.underlying37 (And.intro @Try.underlying38 (And.intro @Try.underlying39 (And.intro @Try.underlying40 (And.intro @Try.underlying42 (And.intro @Try.underlying45 (And.intro @Try.underlying47 (And.intro @Try.underlying48 (And.intro @Try.underlying49 (And.intro @Try.underlying52 (And.intro @Try.underlying53 (And.intro @Try.underlying57 (And.intro @Try.underlying58 (And.intro @Try.underlying59 (And.intro @Try.underlying60 (And.intro @Try.underlying62 (And.intro @Try.underlying63 (And.intro @Try.underlying64 (And.intro @Try.underlying73 (And.intro @Try.underlying74 (And.intro @Try.underlying75 (And.intro @Try.underlying81 (And.intro @Try.underlying94 (And.intro @Try.underlying95 (And.intro @Try.underlying102 (And.intro @Try.underlying107 (And.intro @Try.underlying108 (And.intro @Try.underlying109 (And.intro @Try.underlying110 (And.intro @Try.underlying111 (And.intro @Try.underlying113 (And.intro @Try.underlying114 (And.intro @Try.underlying115 (And.intro @Try.underlying117 (And.intro @Try.underlying118 (And.intro @Try.underlying119 (@Try.underlying120)))))))))))))))))))))))))))))))))))))))))))))))))))))))))))))))))))))))))))))))))))))))))))))))))))) := And.intro @cal49 (And.intro @cal50 (And.intro @cal51 (And.intro @cal52 (And.intro @cal53 (And.intro @cal54 (And.intro @cal55 (And.intro @cal56 (And.intro @cal57 (And.intro @cal58 (And.intro @cal59 (And.intro @cal61 (And.intro @cal62 (And.intro @cal63 (And.intro @cal64 (And.intro @cal65 (And.intro @cal66 (And.intro @cal0 (And.intro @cal1 (And.intro @cal60 (And.intro @cal67 (And.intro @cal68 (And.intro @cal69 (And.intro @cal70 (And.intro @cal71 (And.intro @cal72 (And.intro @cal73 (And.intro @cal74 (And.intro @cal75 (And.intro @cal76 (And.intro @cal77 (And.intro @cal78 (And.intro @cal79 (And.intro @cal80 (And.intro @cal81 (And.intro @cal82 (And.intro @cal83 (And.intro @Try.underlying2 (And.intro @Try.underlying3 (And.intro @Try.underlying4 (And.intro @Try.underlying5 (And.intro @Try.underlying6 (And.intro @Try.underlying7 (And.intro @Try.underlying8 (And.intro @Try.underlying9 (And.intro @Try.underlying10 (And.intro @Try.underlying11 (And.intro @Try.underlying12 (And.intro @Try.underlying13 (And.intro @Try.underlying14 (And.intro @Try.underlying15 (And.intro @Try.underlying16 (And.intro @Try.underlying17 (And.intro @Try.underlying18 (And.intro @Try.underlying19 (And.intro @Try.underlying21 (And.intro @Try.underlying22 (And.intro @Try.underlying28 (And.intro @Try.underlying29 (And.intro @Try.underlying31 (And.intro @Try.underlying34 (And.intro @Try.underlying35 (And.intro @Try.underlying36 (And.intro @Try.underlying37 (And.intro @Try.underlying38 (And.intro @Try.underlying39 (And.intro @Try.underlying40 (And.intro @Try.underlying42 (And.intro @Try.underlying45 (And.intro @Try.underlying47 (And.intro @Try.underlying48 (And.intro @Try.underlying49 (And.intro @Try.underlying52 (And.intro @Try.underlying53 (And.intro @Try.underlying57 (And.intro @Try.underlying58 (And.intro @Try.underlying59 (And.intro @Try.underlying60 (And.intro @Try.underlying62 (And.intro @Try.underlying63 (And.intro @Try.underlying64 (And.intro @Try.underlying73 (And.intro @Try.underlying74 (And.intro @Try.underlying75 (And.intro @Try.underlying81 (And.intro @Try.underlying94 (And.intro @Try.underlying95 (And.intro @Try.underlying102 (And.intro @Try.underlying107 (And.intro @Try.underlying108 (And.intro @Try.underlying109 (And.intro @Try.underlying110 (And.intro @Try.underlying111 (And.intro @Try.underlying113 (And.intro @Try.underlying114 (And.intro @Try.underlying115 (And.intro @Try.underlying117 (And.intro @Try.underlying118 (And.intro @Try.underlying119 (@Try.underlying120)))))))))))))))))))))))))))))))))))))))))))))))))))))))))))))))))))))))))))))))))))))))))))))))))))
theorem tyS5 : type_of% (And.intro @Try.underlying121 (And.intro @Try.underlying122 (And.intro @Try.results2 (And.intro @Try.results3 (And.intro @Try.results4 (And.intro @Try.results5 (And.intro @Try.results6 (And.intro @Try.results7 (And.intro @Try.results8 (And.intro @Try.results9 (And.intro @Try.results10 (And.intro @Try.results11 (And.intro @Try.results12 (And.intro @Try.results13 (And.intro @Try.results14 (And.intro @Try.results15 (And.intro @Try.results16 (And.intro @Try.results17 (And.intro @Try.results18 (And.intro @Try.results19 (And.intro @Try.results20 (And.intro @Try.results21 (And.intro @Try.results22 (And.intro @Try.results23 (And.intro @Try.results24 (And.intro @Try.results25 (And.intro @Try.results26 (And.intro @Try.results27 (And.intro @Try.results28 (And.intro @Try.results29 (And.intro @Try.results30 (And.intro @Try.results31 (And.intro @Try.results32 (And.intro @Try.results33 (And.intro @Try.results34 (And.intro @Try.results35 (And.intro @Try.results36 (And.intro @Try.results37 (And.intro @Try.results38 (And.intro @Try.results39 (And.intro @Try.results40 (And.intro @Try.results41 (And.intro @Try.results42 (And.intro @Try.results43 (And.intro @Try.results44 (And.intro @Try.results45 (And.intro @Try.results46 (And.intro @Try.results47 (And.intro @Try.results48 (And.intro @Try.results49 (And.intro @Try.results50 (And.intro @Try.results51 (And.intro @Try.results52 (And.intro @Try.results53 (And.intro @Try.results54 (And.intro @Try.results55 (And.intro @Try.results56 (And.intro @Try.results57 (And.intro @Try.results58 (And.intro @Try.results59 (And.intro @Try.results61 (And.intro @Try.results62 (And.intro @Try.results63 (And.intro @Try.results64 (And.intro @Try.results65 (@Try.results66)))))))))))))))))))))))))))))))))))))))))))))))))))))))))))))))))) := And.intro @Try.underlying121 (And.intro @Try.underlying122 (And.intro @Try.results2 (And.intro @Try.results3 (And.intro @Try.results4 (And.intro @Try.results5 (And.intro @Try.results6 (And.intro @Try.results7 (And.intro @Try.results8 (And.intro @Try.results9 (And.intro @Try.results10 (And.intro @Try.results11 (And.intro @Try.results12 (And.intro @Try.results13 (And.intro @Try.results14 (And.intro @Try.results15 (And.intro @Try.results16 (And.intro @Try.results17 (And.intro @Try.results18 (And.intro @Try.results19 (And.intro @Try.results20 (And.intro @Try.results21 (And.intro @Try.results22 (And.intro @Try.results23 (And.intro @Try.results24 (And.intro @Try.results25 (And.intro @Try.results26 (And.intro @Try.results27 (And.intro @Try.results28 (And.intro @Try.results29 (And.intro @Try.results30 (And.intro @Try.results31 (And.intro @Try.results32 (And.intro @Try.results33 (And.intro @Try.results34 (And.intro @Try.results35 (And.intro @Try.results36 (And.intro @Try.results37 (And.intro @Try.results38 (And.intro @Try.results39 (And.intro @Try.results40 (And.intro @Try.results41 (And.intro @Try.results42 (And.intro @Try.results43 (And.intro @Try.results44 (And.intro @Try.results45 (And.intro @Try.results46 (And.intro @Try.results47 (And.intro @Try.results48 (And.intro @Try.results49 (And.intro @Try.results50 (And.intro @Try.results51 (And.intro @Try.results52 (And.intro @Try.results53 (And.intro @Try.results54 (And.intro @Try.results55 (And.intro @Try.results56 (And.intro @Try.results57 (And.intro @Try.results58 (And.intro @Try.results59 (And.intro @Try.results61 (And.intro @Try.results62 (And.intro @Try.results63 (And.intro @Try.results64 (And.intro @Try.results65 (@Try.results66)))))))))))))))))))))))))))))))))))))))))))))))))))))))))))))))))
theorem tyS : type_of% (And.intro @tyS0 (And.intro @tyS1 (And.intro @tyS2 (And.intro @tyS3 (And.intro @tyS4 (@tyS5)))))) := And.intro @tyS0 (And.intro @tyS1 (And.intro @tyS2 (And.intro @tyS3 (And.intro @tyS4 (@tyS5)))))
end Go.Proofs.Ytkkpmcomloekoaa
