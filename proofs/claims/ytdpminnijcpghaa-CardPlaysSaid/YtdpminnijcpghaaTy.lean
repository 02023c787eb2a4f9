/-
Closed facts on the types and functions of this translation.
Conditions: none.
-/
import Derived.Test.YtdpminnijcpghaaProg
import Derived.Test.YtdpminnijcpghaaVmEq
import Derived.KernelRfl
namespace Go.Proofs.Ytdpminnijcpghaa
open Go.Vm
set_option maxRecDepth 100000
theorem shp2 : shp Try.prog 2 = some (false, 1) := by kernel_rfl
theorem zro2 : zro Try.prog 2 = some (.int .i64 0) := by kernel_rfl
theorem shp3 : shp Try.prog 3 = some (false, 1) := by kernel_rfl
theorem zro3 : zro Try.prog 3 = some (.int .i64 0) := by kernel_rfl
theorem shp4 : shp Try.prog 4 = some (false, 1) := by kernel_rfl
theorem zro4 : zro Try.prog 4 = some (.bool false) := by kernel_rfl
theorem shp5 : shp Try.prog 5 = some (false, 1) := by kernel_rfl
theorem zro5 : zro Try.prog 5 = some (.int .u8 0) := by kernel_rfl
theorem shp6 : shp Try.prog 6 = some (false, 1) := by kernel_rfl
theorem zro6 : zro Try.prog 6 = some (.int .u8 0) := by kernel_rfl
theorem shp7 : shp Try.prog 7 = some (true, 4) := by kernel_rfl
theorem fld7n0 : fld Try.prog 7 0 = some (0, false, 1) := by kernel_rfl
theorem fld7n1 : fld Try.prog 7 1 = some (1, false, 1) := by kernel_rfl
theorem fld7n2 : fld Try.prog 7 2 = some (2, false, 1) := by kernel_rfl
theorem fld7n3 : fld Try.prog 7 3 = some (3, false, 1) := by kernel_rfl
theorem bok7 : bldOk Try.prog 7 = true := by kernel_rfl
theorem zro7 : zro Try.prog 7 = some (.agg #[.int .i64 0, .int .i64 0, .bool false, .int .u8 0]) := by kernel_rfl
theorem shp8 : shp Try.prog 8 = some (true, 4) := by kernel_rfl
theorem fld8n0 : fld Try.prog 8 0 = some (0, false, 1) := by kernel_rfl
theorem fld8n1 : fld Try.prog 8 1 = some (1, false, 1) := by kernel_rfl
theorem fld8n2 : fld Try.prog 8 2 = some (2, false, 1) := by kernel_rfl
theorem fld8n3 : fld Try.prog 8 3 = some (3, false, 1) := by kernel_rfl
theorem bok8 : bldOk Try.prog 8 = true := by kernel_rfl
theorem zro8 : zro Try.prog 8 = some (.agg #[.int .i64 0, .int .i64 0, .bool false, .int .u8 0]) := by kernel_rfl
theorem shp9 : shp Try.prog 9 = some (false, 1) := by kernel_rfl
theorem zro9 : zro Try.prog 9 = some (.string ⟨#[]⟩) := by kernel_rfl
theorem shp10 : shp Try.prog 10 = some (false, 1) := by kernel_rfl
theorem zro10 : zro Try.prog 10 = some (.string ⟨#[]⟩) := by kernel_rfl
theorem shp11 : shp Try.prog 11 = some (false, 1) := by kernel_rfl
theorem zro11 : zro Try.prog 11 = some (.string ⟨#[]⟩) := by kernel_rfl
theorem shp12 : shp Try.prog 12 = some (false, 1) := by kernel_rfl
theorem zro12 : zro Try.prog 12 = some (.int .u64 0) := by kernel_rfl
theorem shp13 : shp Try.prog 13 = some (true, 2) := by kernel_rfl
theorem fld13n0 : fld Try.prog 13 0 = some (0, false, 1) := by kernel_rfl
theorem fld13n1 : fld Try.prog 13 1 = some (1, false, 1) := by kernel_rfl
theorem bok13 : bldOk Try.prog 13 = true := by kernel_rfl
theorem zro13 : zro Try.prog 13 = some (.agg #[.string ⟨#[]⟩, .int .u64 0]) := by kernel_rfl
theorem shp14 : shp Try.prog 14 = some (true, 2) := by kernel_rfl
theorem fld14n0 : fld Try.prog 14 0 = some (0, false, 1) := by kernel_rfl
theorem fld14n1 : fld Try.prog 14 1 = some (1, false, 1) := by kernel_rfl
theorem bok14 : bldOk Try.prog 14 = true := by kernel_rfl
theorem zro14 : zro Try.prog 14 = some (.agg #[.string ⟨#[]⟩, .int .u64 0]) := by kernel_rfl
theorem shp15 : shp Try.prog 15 = some (false, 1) := by kernel_rfl
theorem zro15 : zro Try.prog 15 = some (.pointer none) := by kernel_rfl
theorem shp16 : shp Try.prog 16 = some (false, 1) := by kernel_rfl
theorem zro16 : zro Try.prog 16 = some (.pointer none) := by kernel_rfl
theorem shp17 : shp Try.prog 17 = some (false, 1) := by kernel_rfl
theorem zro17 : zro Try.prog 17 = some (.pointer none) := by kernel_rfl
theorem shp18 : shp Try.prog 18 = some (true, 1) := by kernel_rfl
theorem fld18n0 : fld Try.prog 18 0 = some (0, false, 1) := by kernel_rfl
theorem bok18 : bldOk Try.prog 18 = true := by kernel_rfl
theorem zro18 : zro Try.prog 18 = some (.agg #[.pointer none]) := by kernel_rfl
theorem shp19 : shp Try.prog 19 = some (true, 1) := by kernel_rfl
theorem fld19n0 : fld Try.prog 19 0 = some (0, false, 1) := by kernel_rfl
theorem bok19 : bldOk Try.prog 19 = true := by kernel_rfl
theorem zro19 : zro Try.prog 19 = some (.agg #[.pointer none]) := by kernel_rfl
theorem shp20 : shp Try.prog 20 = some (false, 1) := by kernel_rfl
theorem zro20 : zro Try.prog 20 = some (.nilIface) := by kernel_rfl
theorem shp21 : shp Try.prog 21 = some (false, 1) := by kernel_rfl
theorem zro21 : zro Try.prog 21 = some (.int .i32 0) := by kernel_rfl
theorem shp22 : shp Try.prog 22 = some (false, 1) := by kernel_rfl
theorem zro22 : zro Try.prog 22 = some (.int .i64 0) := by kernel_rfl
theorem shp27 : shp Try.prog 27 = some (false, 1) := by kernel_rfl
theorem zro27 : zro Try.prog 27 = some (.slice none 0 0) := by kernel_rfl
theorem slc27 : slc Try.prog 27 = some (33, 4, 32) := by kernel_rfl
theorem shp28 : shp Try.prog 28 = some (false, 1) := by kernel_rfl
theorem zro28 : zro Try.prog 28 = some (.pointer none) := by kernel_rfl
theorem shp32 : shp Try.prog 32 = some (true, 4) := by kernel_rfl
theorem fld32n0 : fld Try.prog 32 0 = some (0, false, 1) := by kernel_rfl
theorem fld32n1 : fld Try.prog 32 1 = some (1, false, 1) := by kernel_rfl
theorem fld32n2 : fld Try.prog 32 2 = some (2, false, 1) := by kernel_rfl
theorem fld32n3 : fld Try.prog 32 3 = some (3, false, 1) := by kernel_rfl
theorem bok32 : bldOk Try.prog 32 = true := by kernel_rfl
theorem sih32 : Try.prog.stoodInHeld 32 = false := by kernel_rfl
theorem egt32 : Try.prog.eqGuardType Try.prog.depth 32 = false := by kernel_rfl
theorem zro32 : zro Try.prog 32 = some (.agg #[.int .u8 0, .int .i64 0, .int .i64 0, .int .i64 0]) := by kernel_rfl
theorem shp33 : shp Try.prog 33 = some (true, 4) := by kernel_rfl
theorem fld33n0 : fld Try.prog 33 0 = some (0, false, 1) := by kernel_rfl
theorem fld33n1 : fld Try.prog 33 1 = some (1, false, 1) := by kernel_rfl
theorem fld33n2 : fld Try.prog 33 2 = some (2, false, 1) := by kernel_rfl
theorem fld33n3 : fld Try.prog 33 3 = some (3, false, 1) := by kernel_rfl
theorem bok33 : bldOk Try.prog 33 = true := by kernel_rfl
theorem sih33 : Try.prog.stoodInHeld 33 = false := by kernel_rfl
theorem egt33 : Try.prog.eqGuardType Try.prog.depth 33 = false := by kernel_rfl
theorem zro33 : zro Try.prog 33 = some (.agg #[.int .u8 0, .int .i64 0, .int .i64 0, .int .i64 0]) := by kernel_rfl
theorem shp38 : shp Try.prog 38 = some (false, 1) := by kernel_rfl
theorem zro38 : zro Try.prog 38 = some (.int .u16 0) := by kernel_rfl
theorem shp40 : shp Try.prog 40 = some (false, 1) := by kernel_rfl
theorem zro40 : zro Try.prog 40 = some (.slice none 0 0) := by kernel_rfl
theorem slc40 : slc Try.prog 40 = some (5, 1, 1) := by kernel_rfl
theorem shp43 : shp Try.prog 43 = some (true, 4) := by kernel_rfl
theorem fld43n0 : fld Try.prog 43 0 = some (0, false, 1) := by kernel_rfl
theorem fld43n1 : fld Try.prog 43 1 = some (1, false, 1) := by kernel_rfl
theorem fld43n2 : fld Try.prog 43 2 = some (2, false, 1) := by kernel_rfl
theorem fld43n3 : fld Try.prog 43 3 = some (3, false, 1) := by kernel_rfl
theorem bok43 : bldOk Try.prog 43 = true := by kernel_rfl
theorem sih43 : Try.prog.stoodInHeld 43 = false := by kernel_rfl
theorem egt43 : Try.prog.eqGuardType Try.prog.depth 43 = false := by kernel_rfl
theorem zro43 : zro Try.prog 43 = some (.agg #[.string ⟨#[]⟩, .int .i64 0, .int .i64 0, .int .i64 0]) := by kernel_rfl
theorem shp44 : shp Try.prog 44 = some (true, 4) := by kernel_rfl
theorem fld44n0 : fld Try.prog 44 0 = some (0, false, 1) := by kernel_rfl
theorem fld44n1 : fld Try.prog 44 1 = some (1, false, 1) := by kernel_rfl
theorem fld44n2 : fld Try.prog 44 2 = some (2, false, 1) := by kernel_rfl
theorem fld44n3 : fld Try.prog 44 3 = some (3, false, 1) := by kernel_rfl
theorem bok44 : bldOk Try.prog 44 = true := by kernel_rfl
theorem sih44 : Try.prog.stoodInHeld 44 = false := by kernel_rfl
theorem egt44 : Try.prog.eqGuardType Try.prog.depth 44 = false := by kernel_rfl
theorem zro44 : zro Try.prog 44 = some (.agg #[.string ⟨#[]⟩, .int .i64 0, .int .i64 0, .int .i64 0]) := by kernel_rfl
theorem shp45 : shp Try.prog 45 = some (false, 1) := by kernel_rfl
theorem zro45 : zro Try.prog 45 = some (.pointer none) := by kernel_rfl
theorem shp54 : shp Try.prog 54 = some (true, 4) := by kernel_rfl
theorem fld54n0 : fld Try.prog 54 0 = some (0, false, 1) := by kernel_rfl
theorem fld54n1 : fld Try.prog 54 1 = some (1, false, 1) := by kernel_rfl
theorem fld54n2 : fld Try.prog 54 2 = some (2, false, 1) := by kernel_rfl
theorem fld54n3 : fld Try.prog 54 3 = some (3, false, 1) := by kernel_rfl
theorem bok54 : bldOk Try.prog 54 = true := by kernel_rfl
theorem sih54 : Try.prog.stoodInHeld 54 = false := by kernel_rfl
theorem egt54 : Try.prog.eqGuardType Try.prog.depth 54 = false := by kernel_rfl
theorem zro54 : zro Try.prog 54 = some (.agg #[.bool false, .int .i64 0, .int .i64 0, .int .i64 0]) := by kernel_rfl
theorem shp55 : shp Try.prog 55 = some (true, 4) := by kernel_rfl
theorem fld55n0 : fld Try.prog 55 0 = some (0, false, 1) := by kernel_rfl
theorem fld55n1 : fld Try.prog 55 1 = some (1, false, 1) := by kernel_rfl
theorem fld55n2 : fld Try.prog 55 2 = some (2, false, 1) := by kernel_rfl
theorem fld55n3 : fld Try.prog 55 3 = some (3, false, 1) := by kernel_rfl
theorem bok55 : bldOk Try.prog 55 = true := by kernel_rfl
theorem sih55 : Try.prog.stoodInHeld 55 = false := by kernel_rfl
theorem egt55 : Try.prog.eqGuardType Try.prog.depth 55 = false := by kernel_rfl
theorem zro55 : zro Try.prog 55 = some (.agg #[.bool false, .int .i64 0, .int .i64 0, .int .i64 0]) := by kernel_rfl
theorem shp56 : shp Try.prog 56 = some (true, 9) := by kernel_rfl
theorem fld56n0 : fld Try.prog 56 0 = some (0, false, 1) := by kernel_rfl
theorem fld56n1 : fld Try.prog 56 1 = some (1, false, 1) := by kernel_rfl
theorem fld56n2 : fld Try.prog 56 2 = some (2, false, 1) := by kernel_rfl
theorem fld56n3 : fld Try.prog 56 3 = some (3, false, 1) := by kernel_rfl
theorem fld56n4 : fld Try.prog 56 4 = some (4, false, 1) := by kernel_rfl
theorem fld56n5 : fld Try.prog 56 5 = some (5, true, 4) := by kernel_rfl
theorem bok56 : bldOk Try.prog 56 = true := by kernel_rfl
theorem sih56 : Try.prog.stoodInHeld 56 = false := by kernel_rfl
theorem egt56 : Try.prog.eqGuardType Try.prog.depth 56 = false := by kernel_rfl
theorem zro56 : zro Try.prog 56 = some (.agg #[.string ⟨#[]⟩, .int .i64 0, .int .i64 0, .int .i64 0, .int .i64 0, .bool false, .int .i64 0, .int .i64 0, .int .i64 0]) := by kernel_rfl
theorem shp57 : shp Try.prog 57 = some (true, 9) := by kernel_rfl
theorem fld57n0 : fld Try.prog 57 0 = some (0, false, 1) := by kernel_rfl
theorem fld57n1 : fld Try.prog 57 1 = some (1, false, 1) := by kernel_rfl
theorem fld57n2 : fld Try.prog 57 2 = some (2, false, 1) := by kernel_rfl
theorem fld57n3 : fld Try.prog 57 3 = some (3, false, 1) := by kernel_rfl
theorem fld57n4 : fld Try.prog 57 4 = some (4, false, 1) := by kernel_rfl
theorem fld57n5 : fld Try.prog 57 5 = some (5, true, 4) := by kernel_rfl
theorem bok57 : bldOk Try.prog 57 = true := by kernel_rfl
theorem sih57 : Try.prog.stoodInHeld 57 = false := by kernel_rfl
theorem egt57 : Try.prog.eqGuardType Try.prog.depth 57 = false := by kernel_rfl
theorem zro57 : zro Try.prog 57 = some (.agg #[.string ⟨#[]⟩, .int .i64 0, .int .i64 0, .int .i64 0, .int .i64 0, .bool false, .int .i64 0, .int .i64 0, .int .i64 0]) := by kernel_rfl
theorem shp58 : shp Try.prog 58 = some (true, 9) := by kernel_rfl
theorem fld58n0 : fld Try.prog 58 0 = some (0, false, 1) := by kernel_rfl
theorem fld58n1 : fld Try.prog 58 1 = some (1, false, 1) := by kernel_rfl
theorem fld58n2 : fld Try.prog 58 2 = some (2, false, 1) := by kernel_rfl
theorem fld58n3 : fld Try.prog 58 3 = some (3, false, 1) := by kernel_rfl
theorem fld58n4 : fld Try.prog 58 4 = some (4, false, 1) := by kernel_rfl
theorem fld58n5 : fld Try.prog 58 5 = some (5, false, 1) := by kernel_rfl
theorem fld58n6 : fld Try.prog 58 6 = some (6, false, 1) := by kernel_rfl
theorem fld58n7 : fld Try.prog 58 7 = some (7, false, 1) := by kernel_rfl
theorem fld58n8 : fld Try.prog 58 8 = some (8, false, 1) := by kernel_rfl
theorem bok58 : bldOk Try.prog 58 = true := by kernel_rfl
theorem sih58 : Try.prog.stoodInHeld 58 = false := by kernel_rfl
theorem egt58 : Try.prog.eqGuardType Try.prog.depth 58 = false := by kernel_rfl
theorem zro58 : zro Try.prog 58 = some (.agg #[.string ⟨#[]⟩, .int .i64 0, .int .i64 0, .int .i64 0, .int .i64 0, .int .i64 0, .int .i64 0, .int .i64 0, .bool false]) := by kernel_rfl
theorem shp59 : shp Try.prog 59 = some (true, 9) := by kernel_rfl
theorem fld59n0 : fld Try.prog 59 0 = some (0, false, 1) := by kernel_rfl
theorem fld59n1 : fld Try.prog 59 1 = some (1, false, 1) := by kernel_rfl
theorem fld59n2 : fld Try.prog 59 2 = some (2, false, 1) := by kernel_rfl
theorem fld59n3 : fld Try.prog 59 3 = some (3, false, 1) := by kernel_rfl
theorem fld59n4 : fld Try.prog 59 4 = some (4, false, 1) := by kernel_rfl
theorem fld59n5 : fld Try.prog 59 5 = some (5, false, 1) := by kernel_rfl
theorem fld59n6 : fld Try.prog 59 6 = some (6, false, 1) := by kernel_rfl
theorem fld59n7 : fld Try.prog 59 7 = some (7, false, 1) := by kernel_rfl
theorem fld59n8 : fld Try.prog 59 8 = some (8, false, 1) := by kernel_rfl
theorem bok59 : bldOk Try.prog 59 = true := by kernel_rfl
theorem sih59 : Try.prog.stoodInHeld 59 = false := by kernel_rfl
theorem egt59 : Try.prog.eqGuardType Try.prog.depth 59 = false := by kernel_rfl
theorem zro59 : zro Try.prog 59 = some (.agg #[.string ⟨#[]⟩, .int .i64 0, .int .i64 0, .int .i64 0, .int .i64 0, .int .i64 0, .int .i64 0, .int .i64 0, .bool false]) := by kernel_rfl
theorem shp63 : shp Try.prog 63 = some (true, 4) := by kernel_rfl
theorem fld63n0 : fld Try.prog 63 0 = some (0, false, 1) := by kernel_rfl
theorem fld63n1 : fld Try.prog 63 1 = some (1, false, 1) := by kernel_rfl
theorem fld63n2 : fld Try.prog 63 2 = some (2, false, 1) := by kernel_rfl
theorem fld63n3 : fld Try.prog 63 3 = some (3, false, 1) := by kernel_rfl
theorem bok63 : bldOk Try.prog 63 = true := by kernel_rfl
theorem zro63 : zro Try.prog 63 = some (.agg #[.pointer none, .pointer none, .pointer none, .string ⟨#[]⟩]) := by kernel_rfl
theorem shp64 : shp Try.prog 64 = some (true, 4) := by kernel_rfl
theorem fld64n0 : fld Try.prog 64 0 = some (0, false, 1) := by kernel_rfl
theorem fld64n1 : fld Try.prog 64 1 = some (1, false, 1) := by kernel_rfl
theorem fld64n2 : fld Try.prog 64 2 = some (2, false, 1) := by kernel_rfl
theorem fld64n3 : fld Try.prog 64 3 = some (3, false, 1) := by kernel_rfl
theorem bok64 : bldOk Try.prog 64 = true := by kernel_rfl
theorem zro64 : zro Try.prog 64 = some (.agg #[.pointer none, .pointer none, .pointer none, .string ⟨#[]⟩]) := by kernel_rfl
theorem shp65 : shp Try.prog 65 = some (true, 0) := by kernel_rfl
theorem bok65 : bldOk Try.prog 65 = false := by kernel_rfl
theorem zro65 : zro Try.prog 65 = some (.agg #[]) := by kernel_rfl
theorem shp66 : shp Try.prog 66 = some (true, 0) := by kernel_rfl
theorem fld66n0 : fld Try.prog 66 0 = some (0, true, 0) := by kernel_rfl
theorem bok66 : bldOk Try.prog 66 = true := by kernel_rfl
theorem zro66 : zro Try.prog 66 = some (.agg #[]) := by kernel_rfl
theorem shp67 : shp Try.prog 67 = some (true, 0) := by kernel_rfl
theorem fld67n0 : fld Try.prog 67 0 = some (0, true, 0) := by kernel_rfl
theorem bok67 : bldOk Try.prog 67 = true := by kernel_rfl
theorem zro67 : zro Try.prog 67 = some (.agg #[]) := by kernel_rfl
theorem shp68 : shp Try.prog 68 = some (false, 1) := by kernel_rfl
theorem zro68 : zro Try.prog 68 = some (.int .u32 0) := by kernel_rfl
theorem shp69 : shp Try.prog 69 = some (false, 1) := by kernel_rfl
theorem zro69 : zro Try.prog 69 = some (.int .u8 0) := by kernel_rfl
theorem shp70 : shp Try.prog 70 = some (false, 1) := by kernel_rfl
theorem zro70 : zro Try.prog 70 = some (.int .u8 0) := by kernel_rfl
theorem shp72 : shp Try.prog 72 = some (false, 1) := by kernel_rfl
theorem zro72 : zro Try.prog 72 = some (.pointer none) := by kernel_rfl
theorem shp73 : shp Try.prog 73 = some (false, 1) := by kernel_rfl
theorem zro73 : zro Try.prog 73 = some (.int .i32 0) := by kernel_rfl
theorem shp74 : shp Try.prog 74 = some (false, 1) := by kernel_rfl
theorem zro74 : zro Try.prog 74 = some (.int .i32 0) := by kernel_rfl
theorem shp75 : shp Try.prog 75 = some (true, 11) := by kernel_rfl
theorem fld75n0 : fld Try.prog 75 0 = some (0, false, 1) := by kernel_rfl
theorem fld75n1 : fld Try.prog 75 1 = some (1, false, 1) := by kernel_rfl
theorem fld75n2 : fld Try.prog 75 2 = some (2, false, 1) := by kernel_rfl
theorem fld75n3 : fld Try.prog 75 3 = some (3, false, 1) := by kernel_rfl
theorem fld75n4 : fld Try.prog 75 4 = some (4, false, 1) := by kernel_rfl
theorem fld75n5 : fld Try.prog 75 5 = some (5, false, 1) := by kernel_rfl
theorem fld75n6 : fld Try.prog 75 6 = some (6, false, 1) := by kernel_rfl
theorem fld75n7 : fld Try.prog 75 7 = some (7, false, 1) := by kernel_rfl
theorem fld75n8 : fld Try.prog 75 8 = some (8, false, 1) := by kernel_rfl
theorem fld75n9 : fld Try.prog 75 9 = some (9, false, 1) := by kernel_rfl
theorem fld75n10 : fld Try.prog 75 10 = some (10, false, 1) := by kernel_rfl
theorem bok75 : bldOk Try.prog 75 = true := by kernel_rfl
theorem zro75 : zro Try.prog 75 = some (.agg #[.int .u64 0, .int .u64 0, .int .u32 0, .int .u8 0, .int .u8 0, .int .u8 0, .int .u8 0, .nilFunc, .pointer none, .int .i32 0, .int .i32 0]) := by kernel_rfl
theorem shp76 : shp Try.prog 76 = some (true, 11) := by kernel_rfl
theorem fld76n0 : fld Try.prog 76 0 = some (0, false, 1) := by kernel_rfl
theorem fld76n1 : fld Try.prog 76 1 = some (1, false, 1) := by kernel_rfl
theorem fld76n2 : fld Try.prog 76 2 = some (2, false, 1) := by kernel_rfl
theorem fld76n3 : fld Try.prog 76 3 = some (3, false, 1) := by kernel_rfl
theorem fld76n4 : fld Try.prog 76 4 = some (4, false, 1) := by kernel_rfl
theorem fld76n5 : fld Try.prog 76 5 = some (5, false, 1) := by kernel_rfl
theorem fld76n6 : fld Try.prog 76 6 = some (6, false, 1) := by kernel_rfl
theorem fld76n7 : fld Try.prog 76 7 = some (7, false, 1) := by kernel_rfl
theorem fld76n8 : fld Try.prog 76 8 = some (8, false, 1) := by kernel_rfl
theorem fld76n9 : fld Try.prog 76 9 = some (9, false, 1) := by kernel_rfl
theorem fld76n10 : fld Try.prog 76 10 = some (10, false, 1) := by kernel_rfl
theorem bok76 : bldOk Try.prog 76 = true := by kernel_rfl
theorem zro76 : zro Try.prog 76 = some (.agg #[.int .u64 0, .int .u64 0, .int .u32 0, .int .u8 0, .int .u8 0, .int .u8 0, .int .u8 0, .nilFunc, .pointer none, .int .i32 0, .int .i32 0]) := by kernel_rfl
theorem shp77 : shp Try.prog 77 = some (false, 1) := by kernel_rfl
theorem zro77 : zro Try.prog 77 = some (.pointer none) := by kernel_rfl
theorem cal2 : callable Try.prog 2 = true := by kernel_rfl
theorem cal3 : callable Try.prog 3 = true := by kernel_rfl
theorem cal4 : callable Try.prog 4 = true := by kernel_rfl
theorem cal5 : callable Try.prog 5 = true := by kernel_rfl
theorem cal6 : callable Try.prog 6 = true := by kernel_rfl
theorem cal7 : callable Try.prog 7 = true := by kernel_rfl
theorem cal8 : callable Try.prog 8 = true := by kernel_rfl
theorem cal9 : callable Try.prog 9 = true := by kernel_rfl
theorem cal10 : callable Try.prog 10 = true := by kernel_rfl
theorem cal11 : callable Try.prog 11 = true := by kernel_rfl
theorem cal12 : callable Try.prog 12 = true := by kernel_rfl
theorem cal13 : callable Try.prog 13 = true := by kernel_rfl
theorem cal14 : callable Try.prog 14 = true := by kernel_rfl
theorem cal15 : callable Try.prog 15 = true := by kernel_rfl
theorem cal16 : callable Try.prog 16 = true := by kernel_rfl
theorem cal17 : callable Try.prog 17 = true := by kernel_rfl
theorem cal18 : callable Try.prog 18 = true := by kernel_rfl
theorem cal19 : callable Try.prog 19 = true := by kernel_rfl
theorem cal20 : callable Try.prog 20 = true := by kernel_rfl
theorem cal21 : callable Try.prog 21 = true := by kernel_rfl
theorem cal22 : callable Try.prog 22 = true := by kernel_rfl
theorem cal23 : callable Try.prog 23 = true := by kernel_rfl
theorem cal24 : callable Try.prog 24 = true := by kernel_rfl
theorem cal25 : callable Try.prog 25 = true := by kernel_rfl
theorem cal26 : callable Try.prog 26 = true := by kernel_rfl
theorem cal27 : callable Try.prog 27 = true := by kernel_rfl
theorem cal28 : callable Try.prog 28 = true := by kernel_rfl
theorem cal29 : callable Try.prog 29 = true := by kernel_rfl
theorem cal30 : callable Try.prog 30 = true := by kernel_rfl
theorem cal31 : callable Try.prog 31 = true := by kernel_rfl
theorem cal32 : callable Try.prog 32 = true := by kernel_rfl
theorem cal33 : callable Try.prog 33 = true := by kernel_rfl
theorem cal34 : callable Try.prog 34 = true := by kernel_rfl
theorem cal35 : callable Try.prog 35 = true := by kernel_rfl
theorem cal36 : callable Try.prog 36 = true := by kernel_rfl
theorem cal37 : callable Try.prog 37 = true := by kernel_rfl
theorem cal38 : callable Try.prog 38 = true := by kernel_rfl
theorem cal39 : callable Try.prog 39 = true := by kernel_rfl
theorem cal40 : callable Try.prog 40 = true := by kernel_rfl
theorem cal41 : callable Try.prog 41 = true := by kernel_rfl
theorem tyS0 : type_of% (And.intro @shp2 (And.intro @zro2 (And.intro @shp3 (And.intro @zro3 (And.intro @shp4 (And.intro @zro4 (And.intro @shp5 (And.intro @zro5 (And.intro @shp6 (And.intro @zro6 (And.intro @shp7 (And.intro @fld7n0 (And.intro @fld7n1 (And.intro @fld7n2 (And.intro @fld7n3 (And.intro @bok7 (And.intro @zro7 (And.intro @shp8 (And.intro @fld8n0 (And.intro @fld8n1 (And.intro @fld8n2 (And.intro @fld8n3 (And.intro @bok8 (And.intro @zro8 (And.intro @shp9 (And.intro @zro9 (And.intro @shp10 (And.intro @zro10 (And.intro @shp11 (And.intro @zro11 (And.intro @shp12 (And.intro @zro12 (And.intro @shp13 (And.intro @fld13n0 (And.intro @fld13n1 (And.intro @bok13 (And.intro @zro13 (And.intro @shp14 (And.intro @fld14n0 (And.intro @fld14n1 (And.intro @bok14 (And.intro @zro14 (And.intro @shp15 (And.intro @zro15 (And.intro @shp16 (And.intro @zro16 (And.intro @shp17 (And.intro @zro17 (And.intro @shp18 (And.intro @fld18n0 (And.intro @bok18 (And.intro @zro18 (And.intro @shp19 (And.intro @fld19n0 (And.intro @bok19 (And.intro @zro19 (And.intro @shp20 (And.intro @zro20 (And.intro @shp21 (And.intro @zro21 (And.intro @shp22 (And.intro @zro22 (And.intro @shp27 (And.intro @zro27 (And.intro @slc27 (And.intro @shp28 (And.intro @zro28 (And.intro @shp32 (And.intro @fld32n0 (And.intro @fld32n1 (And.intro @fld32n2 (And.intro @fld32n3 (And.intro @bok32 (And.intro @sih32 (And.intro @egt32 (And.intro @zro32 (And.intro @shp33 (And.intro @fld33n0 (And.intro @fld33n1 (And.intro @fld33n2 (And.intro @fld33n3 (And.intro @bok33 (And.intro @sih33 (And.intro @egt33 (And.intro @zro33 (And.intro @shp38 (And.intro @zro38 (And.intro @shp40 (And.intro @zro40 (And.intro @slc40 (And.intro @shp43 (And.intro @fld43n0 (And.intro @fld43n1 (And.intro @fld43n2 (And.intro @fld43n3 (And.intro @bok43 (And.intro @sih43 (And.intro @egt43 (And.intro @zro43 (@shp44)))))))))))))))))))))))))))))))))))))))))))))))))))))))))))))))))))))))))))))))))))))))))))))))))))) := And.intro @shp2 (And.intro @zro2 (And.intro @shp3 (And.intro @zro3 (And.intro @shp4 (And.intro @zro4 (And.intro @shp5 (And.intro @zro5 (And.intro @shp6 (And.intro @zro6 (And.intro @shp7 (And.intro @fld7n0 (And.intro @fld7n1 (And.intro @fld7n2 (And.intro @fld7n3 (And.intro @bok7 (And.intro @zro7 (And.intro @shp8 (And.intro @fld8n0 (And.intro @fld8n1 (And.intro @fld8n2 (And.intro @fld8n3 (And.intro @bok8 (And.intro @zro8 (And.intro @shp9 (And.intro @zro9 (And.intro @shp10 (And.intro @zro10 (And.intro @shp11 (And.intro @zro11 (And.intro @shp12 (And.intro @zro12 (And.intro @shp13 (And.intro @fld13n0 (And.intro @fld13n1 (And.intro @bok13 (And.intro @zro13 (And.intro @shp14 (And.intro @fld14n0 (And.intro @fld14n1 (And.intro @bok14 (And.intro @zro14 (And.intro @shp15 (And.intro @zro15 (And.intro @shp16 (And.intro @zro16 (And.intro @shp17 (And.intro @zro17 (And.intro @shp18 (And.intro @fld18n0 (And.intro @bok18 (And.intro @zro18 (And.intro @shp19 (And.intro @fld19n0 (And.intro @bok19 (And.intro @zro19 (And.intro @shp20 (And.intro @zro20 (And.intro @shp21 (And.intro @zro21 (And.intro @shp22 (And.intro @zro22 (And.intro @shp27 (And.intro @zro27 (And.intro @slc27 (And.intro @shp28 (And.intro @zro28 (And.intro @shp32 (And.intro @fld32n0 (And.intro @fld32n1 (And.intro @fld32n2 (And.intro @fld32n3 (And.intro @bok32 (And.intro @sih32 (And.intro @egt32 (And.intro @zro32 (And.intro @shp33 (And.intro @fld33n0 (And.intro @fld33n1 (And.intro @fld33n2 (And.intro @fld33n3 (And.intro @bok33 (And.intro @sih33 (And.intro @egt33 (And.intro @zro33 (And.intro @shp38 (And.intro @zro38 (And.intro @shp40 (And.intro @zro40 (And.intro @slc40 (And.intro @shp43 (And.intro @fld43n0 (And.intro @fld43n1 (And.intro @fld43n2 (And.intro @fld43n3 (And.intro @bok43 (And.intro @sih43 (And.intro @egt43 (And.intro @zro43 (@shp44)))))))))))))))))))))))))))))))))))))))))))))))))))))))))))))))))))))))))))))))))))))))))))))))))))
theorem tyS1 : type_of% (And.intro @fld44n0 (And.intro @fld44n1 (And.intro @fld44n2 (And.intro @fld44n3 (And.intro @bok44 (And.intro @sih44 (And.intro @egt44 (And.intro @zro44 (And.intro @shp45 (And.intro @zro45 (And.intro @shp54 (And.intro @fld54n0 (And.intro @fld54n1 (And.intro @fld54n2 (And.intro @fld54n3 (And.intro @bok54 (And.intro @sih54 (And.intro @egt54 (And.intro @zro54 (And.intro @shp55 (And.intro @fld55n0 (And.intro @fld55n1 (And.intro @fld55n2 (And.intro @fld55n3 (And.intro @bok55 (And.intro @sih55 (And.intro @egt55 (And.intro @zro55 (And.intro @shp56 (And.intro @fld56n0 (And.intro @fld56n1 (And.intro @fld56n2 (And.intro @fld56n3 (And.intro @fld56n4 (And.intro @fld56n5 (And.intro @bok56 (And.intro @sih56 (And.intro @egt56 (And.intro @zro56 (And.intro @shp57 (And.intro @fld57n0 (And.intro @fld57n1 (And.intro @fld57n2 (And.intro @fld57n3 (And.intro @fld57n4 (And.intro @fld57n5 (And.intro @bok57 (And.intro @sih57 (And.intro @egt57 (And.intro @zro57 (And.intro @shp58 (And.intro @fld58n0 (And.intro @fld58n1 (And.intro @fld58n2 (And.intro @fld58n3 (And.intro @fld58n4 (And.intro @fld58n5 (And.intro @fld58n6 (And.intro @fld58n7 (And.intro @fld58n8 (And.intro @bok58 (And.intro @sih58 (And.intro @egt58 (And.intro @zro58 (And.intro @shp59 (And.intro @fld59n0 (And.intro @fld59n1 (And.intro @fld59n2 (And.intro @fld59n3 (And.intro @fld59n4 (And.intro @fld59n5 (And.intro @fld59n6 (And.intro @fld59n7 (And.intro @fld59n8 (And.intro @bok59 (And.intro @sih59 (And.intro @egt59 (And.intro @zro59 (And.intro @shp63 (And.intro @fld63n0 (And.intro @fld63n1 (And.intro @fld63n2 (And.intro @fld63n3 (And.intro @bok63 (And.intro @zro63 (And.intro @shp64 (And.intro @fld64n0 (And.intro @fld64n1 (And.intro @fld64n2 (And.intro @fld64n3 (And.intro @bok64 (And.intro @zro64 (And.intro @shp65 (And.intro @bok65 (And.intro @zro65 (And.intro @shp66 (And.intro @fld66n0 (And.intro @bok66 (And.intro @zro66 (@shp67)))))))))))))))))))))))))))))))))))))))))))))))))))))))))))))))))))))))))))))))))))))))))))))))))))) := And.intro @fld44n0 (And.intro @fld44n1 (And.intro @fld44n2 (And.intro @fld44n3 (And.intro @bok44 (And.intro @sih44 (And.intro @egt44 (And.intro @zro44 (And.intro @shp45 (And.intro @zro45 (And.intro @shp54 (And.intro @fld54n0 (And.intro @fld54n1 (And.intro @fld54n2 (And.intro @fld54n3 (And.intro @bok54 (And.intro @sih54 (And.intro @egt54 (And.intro @zro54 (And.intro @shp55 (And.intro @fld55n0 (And.intro @fld55n1 (And.intro @fld55n2 (And.intro @fld55n3 (And.intro @bok55 (And.intro @sih55 (And.intro @egt55 (And.intro @zro55 (And.intro @shp56 (And.intro @fld56n0 (And.intro @fld56n1 (And.intro @fld56n2 (And.intro @fld56n3 (And.intro @fld56n4 (And.intro @fld56n5 (And.intro @bok56 (And.intro @sih56 (And.intro @egt56 (And.intro @zro56 (And.intro @shp57 (And.intro @fld57n0 (And.intro @fld57n1 (And.intro @fld57n2 (And.intro @fld57n3 (And.intro @fld57n4 (And.intro @fld57n5 (And.intro @bok57 (And.intro @sih57 (And.intro @egt57 (And.intro @zro57 (And.intro @shp58 (And.intro @fld58n0 (And.intro @fld58n1 (And.intro @fld58n2 (And.intro @fld58n3 (And.intro @fld58n4 (And.intro @fld58n5 (And.intro @fld58n6 (And.intro @fld58n7 (And.intro @fld58n8 (And.intro @bok58 (And.intro @sih58 (And.intro @egt58 (And.intro @zro58 (And.intro @shp59 (And.intro @fld59n0 (And.intro @fld59n1 (And.intro @fld59n2 (And.intro @fld59n3 (And.intro @fld59n4 (And.intro @fld59n5 (And.intro @fld59n6 (And.intro @fld59n7 (And.intro @fld59n8 (And.intro @bok59 (And.intro @sih59 (And.intro @egt59 (And.intro @zro59 (And.intro @shp63 (And.intro @fld63n0 (And.intro @fld63n1 (And.intro @fld63n2 (And.intro @fld63n3 (And.intro @bok63 (And.intro @zro63 (And.intro @shp64 (And.intro @fld64n0 (And.intro @fld64n1 (And.intro @fld64n2 (And.intro @fld64n3 (And.intro @bok64 (And.intro @zro64 (And.intro @shp65 (And.intro @bok65 (And.intro @zro65 (And.intro @shp66 (And.intro @fld66n0 (And.intro @bok66 (And.intro @zro66 (@shp67)))))))))))))))))))))))))))))))))))))))))))))))))))))))))))))))))))))))))))))))))))))))))))))))))))
theorem tyS2 : type_of% (And.intro @fld67n0 (And.intro @bok67 (And.intro @zro67 (And.intro @shp68 (And.intro @zro68 (And.intro @shp69 (And.intro @zro69 (And.intro @shp70 (And.intro @zro70 (And.intro @shp72 (And.intro @zro72 (And.intro @shp73 (And.intro @zro73 (And.intro @shp74 (And.intro @zro74 (And.intro @shp75 (And.intro @fld75n0 (And.intro @fld75n1 (And.intro @fld75n2 (And.intro @fld75n3 (And.intro @fld75n4 (And.intro @fld75n5 (And.intro @fld75n6 (And.intro @fld75n7 (And.intro @fld75n8 (And.intro @fld75n9 (And.intro @fld75n10 (And.intro @bok75 (And.intro @zro75 (And.intro @shp76 (And.intro @fld76n0 (And.intro @fld76n1 (And.intro @fld76n2 (And.intro @fld76n3 (And.intro @fld76n4 (And.intro @fld76n5 (And.intro @fld76n6 (And.intro @fld76n7 (And.intro @fld76n8 (And.intro @fld76n9 (And.intro @fld76n10 (And.intro @bok76 (And.intro @zro76 (And.intro @shp77 (And.intro @zro77 (And.intro @cal2 (And.intro @cal3 (And.intro @cal4 (And.intro @cal5 (And.intro @cal6 (And.intro @cal7 (And.intro @cal8 (And.intro @cal9 (And.intro @cal10 (And.intro @cal11 (And.intro @cal12 (And.intro @cal13 (And.intro @cal14 (And.intro @cal15 (And.intro @cal16 (And.intro @cal17 (And.intro @cal18 (And.intro @cal19 (And.intro @cal20 (And.intro @cal21 (And.intro @cal22 (And.intro @cal23 (And.intro @cal24 (And.intro @cal25 (And.intro @cal26 (And.intro @cal27 (And.intro @cal28 (And.intro @cal29 (And.intro @cal30 (And.intro @cal31 (And.intro @cal32 (And.intro @cal33 (And.intro @cal34 (And.intro @cal35 (And.intro @cal36 (And.intro @cal37 (And.intro @cal38 (And.intro @cal39 (And.intro @cal40 (And.intro @cal41 (And.intro @Try.underlying2 (And.intro @Try.underlying3 (And.intro @Try.underlying4 (And.intro @Try.underlying5 (And.intro @Try.underlying6 (And.intro @Try.underlying7 (And.intro @Try.underlying8 (And.intro @Try.underlying9 (And.intro @Try.underlying10 (And.intro @Try.underlying11 (And.intro @Try.underlying12 (And.intro @Try.underlying13 (And.intro @Try.underlying14 (And.intro @Try.underlying15 (@Try.underlying16)))))))))))))))))))))))))))))))))))))))))))))))))))))))))))))))))))))))))))))))))))))))))))))))))))) := And.intro @fld67n0 (And.intro @bok67 (And.intro @zro67 (And.intro @shp68 (And.intro @zro68 (And.intro @shp69 (And.intro @zro69 (And.intro @shp70 (And.intro @zro70 (And.intro @shp72 (And.intro @zro72 (And.intro @shp73 (And.intro @zro73 (And.intro @shp74 (And.intro @zro74 (And.intro @shp75 (And.intro @fld75n0 (And.intro @fld75n1 (And.intro @fld75n2 (And.intro @fld75n3 (And.intro @fld75n4 (And.intro @fld75n5 (And.intro @fld75n6 (And.intro @fld75n7 (And.intro @fld75n8 (And.intro @fld75n9 (And.intro @fld75n10 (And.intro @bok75 (And.intro @zro75 (And.intro @shp76 (And.intro @fld76n0 (And.intro @fld76n1 (And.intro @fld76n2 (And.intro @fld76n3 (And.intro @fld76n4 (And.intro @fld76n5 (And.intro @fld76n6 (And.intro @fld76n7 (And.intro @fld76n8 (And.intro @fld76n9 (And.intro @fld76n10 (And.intro @bok76 (And.intro @zro76 (And.intro @shp77 (And.intro @zro77 (And.intro @cal2 (And.intro @cal3 (And.intro @cal4 (And.intro @cal5 (And.intro @cal6 (And.intro @cal7 (And.intro @cal8 (And.intro @cal9 (And.intro @cal10 (And.intro @cal11 (And.intro @cal12 (And.intro @cal13 (And.intro @cal14 (And.intro @cal15 (And.intro @cal16 (And.intro @cal17 (And.intro @cal18 (And.intro @cal19 (And.intro @cal20 (And.intro @cal21 (And.intro @cal22 (And.intro @cal23 (And.intro @cal24 (And.intro @cal25 (And.intro @cal26 (And.intro @cal27 (And.intro @cal28 (And.intro @cal29 (And.intro @cal30 (And.intro @cal31 (And.intro @cal32 (And.intro @cal33 (And.intro @cal34 (And.intro @cal35 (And.intro @cal36 (And.intro @cal37 (And.intro @cal38 (And.intro @cal39 (And.intro @cal40 (And.intro @cal41 (And.intro @Try.underlying2 (And.intro @Try.underlying3 (And.intro @Try.underlying4 (And.intro @Try.underlying5 (And.intro @Try.underlying6 (And.intro @Try.underlying7 (And.intro @Try.underlying8 (And.intro @Try.underlying9 (And.intro @Try.underlying10 (And.intro @Try.underlying11 (And.intro @Try.underlying12 (And.intro @Try.underlying13 (And.intro @Try.underlying14 (And.intro @Try.underlying15 (@Try.underlying16)))))))))))))))))))))))))))))))))))))))))))))))))))))))))))))))))))))))))))))))))))))))))))))))))))
theorem tyS3 : type_of% (And.intro @Try.underlying17 (And.intro @Try.underlying18 (And.intro @Try.underlying19 (And.intro @Try.underlying21 (And.intro @Try.underlying22 (And.intro @Try.underlying27 (And.intro @Try.underlying28 (And.intro @Try.underlying32 (And.intro @Try.underlying33 (And.intro @Try.underlying38 (And.intro @Try.underlying40 (And.intro @Try.underlying43 (And.intro @Try.underlying44 (And.intro @Try.underlying45 (And.intro @Try.underlying54 (And.intro @Try.underlying55 (And.intro @Try.underlying56 (And.intro @Try.underlying57 (And.intro @Try.underlying58 (And.intro @Try.underlying59 (And.intro @Try.underlying63 (And.intro @Try.underlying64 (And.intro @Try.underlying65 (And.intro @Try.underlying66 (And.intro @Try.underlying67 (And.intro @Try.underlying68 (And.intro @Try.underlying69 (And.intro @Try.underlying70 (And.intro @Try.underlying72 (And.intro @Try.underlying73 (And.intro @Try.underlying74 (And.intro @Try.underlying75 (And.intro @Try.underlying76 (And.intro @Try.underlying77 (And.intro @Try.results2 (And.intro @Try.results3 (And.intro @Try.results4 (And.intro @Try.results5 (And.intro @Try.results6 (And.intro @Try.results7 (And.intro @Try.results8 (And.intro @Try.results9 (And.intro @Try.results10 (And.intro @Try.results11 (And.intro @Try.results12 (And.intro @Try.results13 (And.intro @Try.results14 (And.intro @Try.results15 (And.intro @Try.results16 (And.intro @Try.results17 (And.intro @Try.results18 (And.intro @Try.results19 (And.intro @Try.results20 (And.intro @Try.results21 (And.intro @Try.results22 (And.intro @Try.results23 (And.intro @Try.results24 (And.intro @Try.results25 (And.intro @Try.results26 (And.intro @Try.results27 (And.intro @Try.results28 (And.intro @Try.results29 (And.intro @Try.results30 (And.intro @Try.results31 (And.intro @Try.results32 (And.intro @Try.results33 (And.intro @Try.results34 (And.intro @Try.results35 (And.intro @Try.results36 (And.intro @Try.results37 (And.intro @Try.results38 (And.intro @Try.results39 (And.intro @Try.results40 (@Try.results41)))))))))))))))))))))))))))))))))))))))))))))))))))))))))))))))))))))))))) := And.intro @Try.underlying17 (And.intro @Try.underlying18 (And.intro @Try.underlying19 (And.intro @Try.underlying21 (And.intro @Try.underlying22 (And.intro @Try.underlying27 (And.intro @Try.underlying28 (And.intro @Try.underlying32 (And.intro @Try.underlying33 (And.intro @Try.underlying38 (And.intro @Try.underlying40 (And.intro @Try.underlying43 (And.intro @Try.underlying44 (And.intro @Try.underlying45 (And.intro @Try.underlying54 (And.intro @Try.underlying55 (And.intro @Try.underlying56 (And.intro @Try.underlying57 (And.intro @Try.underlying58 (And.intro @Try.underlying59 (And.intro @Try.underlying63 (And.intro @Try.underlying64 (And.intro @Try.underlying65 (And.intro @Try.underlying66 (And.intro @Try.underlying67 (And.intro @Try.underlying68 (And.intro @Try.underlying69 (And.intro @Try.underlying70 (And.intro @Try.underlying72 (And.intro @Try.underlying73 (And.intro @Try.underlying74 (And.intro @Try.underlying75 (And.intro @Try.underlying76 (And.intro @Try.underlying77 (And.intro @Try.results2 (And.intro @Try.results3 (And.intro @Try.results4 (And.intro @Try.results5 (And.intro @Try.results6 (And.intro @Try.results7 (And.intro @Try.results8 (And.intro @Try.results9 (And.intro @Try.results10 (And.intro @Try.results11 (And.intro @Try.results12 (And.intro @Try.results13 (And.intro @Try.results14 (And.intro @Try.results15 (And.intro @Try.results16 (And.intro @Try.results17 (And.intro @Try.results18 (And.intro @Try.results19 (And.intro @Try.results20 (And.intro @Try.results21 (And.intro @Try.results22 (And.intro @Try.results23 (And.intro @Try.results24 (And.intro @Try.results25 (And.intro @Try.results26 (And.intro @Try.results27 (And.intro @Try.results28 (And.intro @Try.results29 (And.intro @Try.results30 (And.intro @Try.results31 (And.intro @Try.results32 (And.intro @Try.results33 (And.intro @Try.results34 (And.intro @Try.results35 (And.intro @Try.results36 (And.intro @Try.results37 (And.intro @Try.results38 (And.intro @Try.results39 (And.intro @Try.results40 (@Try.results41)))))))))))))))))))))))))))))))))))))))))))))))))))))))))))))))))))))))))
theorem tyS : type_of% (And.intro @tyS0 (And.intro @tyS1 (And.intro @tyS2 (@tyS3)))) := And.intro @tyS0 (And.intro @tyS1 (And.intro @tyS2 (@tyS3)))
end Go.Proofs.Ytdpminnijcpghaa
