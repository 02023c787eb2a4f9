/-
Closed facts on the types and functions of this translation.
Conditions: none.
-/
import Derived.Test.YtoonmogjjddeeaaDoorProg
import Derived.Test.YtoonmogjjddeeaaDoorVmEq
import Derived.KernelRfl
namespace Go.Proofs.YtoonmogjjddeeaaDoor
open Go.Vm
set_option maxRecDepth 100000
theorem shp2 : shp Tryd.prog 2 = some (false, 1) := by kernel_rfl
theorem zro2 : zro Tryd.prog 2 = some (.int .i64 0) := by kernel_rfl
theorem shp3 : shp Tryd.prog 3 = some (false, 1) := by kernel_rfl
theorem zro3 : zro Tryd.prog 3 = some (.int .i64 0) := by kernel_rfl
theorem shp4 : shp Tryd.prog 4 = some (false, 1) := by kernel_rfl
theorem zro4 : zro Tryd.prog 4 = some (.bool false) := by kernel_rfl
theorem shp5 : shp Tryd.prog 5 = some (false, 1) := by kernel_rfl
theorem zro5 : zro Tryd.prog 5 = some (.int .u8 0) := by kernel_rfl
theorem shp6 : shp Tryd.prog 6 = some (false, 1) := by kernel_rfl
theorem zro6 : zro Tryd.prog 6 = some (.int .u8 0) := by kernel_rfl
theorem shp7 : shp Tryd.prog 7 = some (true, 4) := by kernel_rfl
theorem fld7n0 : fld Tryd.prog 7 0 = some (0, false, 1) := by kernel_rfl
theorem fld7n1 : fld Tryd.prog 7 1 = some (1, false, 1) := by kernel_rfl
theorem fld7n2 : fld Tryd.prog 7 2 = some (2, false, 1) := by kernel_rfl
theorem fld7n3 : fld Tryd.prog 7 3 = some (3, false, 1) := by kernel_rfl
theorem bok7 : bldOk Tryd.prog 7 = true := by kernel_rfl
theorem zro7 : zro Tryd.prog 7 = some (.agg #[.int .i64 0, .int .i64 0, .bool false, .int .u8 0]) := by kernel_rfl
theorem shp8 : shp Tryd.prog 8 = some (true, 4) := by kernel_rfl
theorem fld8n0 : fld Tryd.prog 8 0 = some (0, false, 1) := by kernel_rfl
theorem fld8n1 : fld Tryd.prog 8 1 = some (1, false, 1) := by kernel_rfl
theorem fld8n2 : fld Tryd.prog 8 2 = some (2, false, 1) := by kernel_rfl
theorem fld8n3 : fld Tryd.prog 8 3 = some (3, false, 1) := by kernel_rfl
theorem bok8 : bldOk Tryd.prog 8 = true := by kernel_rfl
theorem zro8 : zro Tryd.prog 8 = some (.agg #[.int .i64 0, .int .i64 0, .bool false, .int .u8 0]) := by kernel_rfl
theorem shp9 : shp Tryd.prog 9 = some (false, 1) := by kernel_rfl
theorem zro9 : zro Tryd.prog 9 = some (.string ⟨#[]⟩) := by kernel_rfl
theorem shp10 : shp Tryd.prog 10 = some (false, 1) := by kernel_rfl
theorem zro10 : zro Tryd.prog 10 = some (.string ⟨#[]⟩) := by kernel_rfl
theorem shp11 : shp Tryd.prog 11 = some (false, 1) := by kernel_rfl
theorem zro11 : zro Tryd.prog 11 = some (.string ⟨#[]⟩) := by kernel_rfl
theorem shp12 : shp Tryd.prog 12 = some (false, 1) := by kernel_rfl
theorem zro12 : zro Tryd.prog 12 = some (.int .u64 0) := by kernel_rfl
theorem shp13 : shp Tryd.prog 13 = some (true, 2) := by kernel_rfl
theorem fld13n0 : fld Tryd.prog 13 0 = some (0, false, 1) := by kernel_rfl
theorem fld13n1 : fld Tryd.prog 13 1 = some (1, false, 1) := by kernel_rfl
theorem bok13 : bldOk Tryd.prog 13 = true := by kernel_rfl
theorem zro13 : zro Tryd.prog 13 = some (.agg #[.string ⟨#[]⟩, .int .u64 0]) := by kernel_rfl
theorem shp14 : shp Tryd.prog 14 = some (true, 2) := by kernel_rfl
theorem fld14n0 : fld Tryd.prog 14 0 = some (0, false, 1) := by kernel_rfl
theorem fld14n1 : fld Tryd.prog 14 1 = some (1, false, 1) := by kernel_rfl
theorem bok14 : bldOk Tryd.prog 14 = true := by kernel_rfl
theorem zro14 : zro Tryd.prog 14 = some (.agg #[.string ⟨#[]⟩, .int .u64 0]) := by kernel_rfl
theorem shp15 : shp Tryd.prog 15 = some (false, 1) := by kernel_rfl
theorem zro15 : zro Tryd.prog 15 = some (.pointer none) := by kernel_rfl
theorem shp16 : shp Tryd.prog 16 = some (false, 1) := by kernel_rfl
theorem zro16 : zro Tryd.prog 16 = some (.pointer none) := by kernel_rfl
theorem shp17 : shp Tryd.prog 17 = some (false, 1) := by kernel_rfl
theorem zro17 : zro Tryd.prog 17 = some (.pointer none) := by kernel_rfl
theorem shp18 : shp Tryd.prog 18 = some (true, 1) := by kernel_rfl
theorem fld18n0 : fld Tryd.prog 18 0 = some (0, false, 1) := by kernel_rfl
theorem bok18 : bldOk Tryd.prog 18 = true := by kernel_rfl
theorem zro18 : zro Tryd.prog 18 = some (.agg #[.pointer none]) := by kernel_rfl
theorem shp19 : shp Tryd.prog 19 = some (true, 1) := by kernel_rfl
theorem fld19n0 : fld Tryd.prog 19 0 = some (0, false, 1) := by kernel_rfl
theorem bok19 : bldOk Tryd.prog 19 = true := by kernel_rfl
theorem zro19 : zro Tryd.prog 19 = some (.agg #[.pointer none]) := by kernel_rfl
theorem shp20 : shp Tryd.prog 20 = some (false, 1) := by kernel_rfl
theorem zro20 : zro Tryd.prog 20 = some (.nilIface) := by kernel_rfl
theorem shp21 : shp Tryd.prog 21 = some (false, 1) := by kernel_rfl
theorem zro21 : zro Tryd.prog 21 = some (.int .i32 0) := by kernel_rfl
theorem shp22 : shp Tryd.prog 22 = some (false, 1) := by kernel_rfl
theorem zro22 : zro Tryd.prog 22 = some (.int .u16 0) := by kernel_rfl
theorem shp23 : shp Tryd.prog 23 = some (true, 3) := by kernel_rfl
theorem fld23n0 : fld Tryd.prog 23 0 = some (0, false, 1) := by kernel_rfl
theorem fld23n1 : fld Tryd.prog 23 1 = some (1, false, 1) := by kernel_rfl
theorem fld23n2 : fld Tryd.prog 23 2 = some (2, false, 1) := by kernel_rfl
theorem bok23 : bldOk Tryd.prog 23 = true := by kernel_rfl
theorem sih23 : Tryd.prog.stoodInHeld 23 = false := by kernel_rfl
theorem egt23 : Tryd.prog.eqGuardType Tryd.prog.depth 23 = false := by kernel_rfl
theorem zro23 : zro Tryd.prog 23 = some (.agg #[.string ⟨#[]⟩, .string ⟨#[]⟩, .int .i64 0]) := by kernel_rfl
theorem shp24 : shp Tryd.prog 24 = some (true, 3) := by kernel_rfl
theorem fld24n0 : fld Tryd.prog 24 0 = some (0, false, 1) := by kernel_rfl
theorem fld24n1 : fld Tryd.prog 24 1 = some (1, false, 1) := by kernel_rfl
theorem fld24n2 : fld Tryd.prog 24 2 = some (2, false, 1) := by kernel_rfl
theorem bok24 : bldOk Tryd.prog 24 = true := by kernel_rfl
theorem sih24 : Tryd.prog.stoodInHeld 24 = false := by kernel_rfl
theorem egt24 : Tryd.prog.eqGuardType Tryd.prog.depth 24 = false := by kernel_rfl
theorem zro24 : zro Tryd.prog 24 = some (.agg #[.string ⟨#[]⟩, .string ⟨#[]⟩, .int .i64 0]) := by kernel_rfl
theorem shp26 : shp Tryd.prog 26 = some (false, 1) := by kernel_rfl
theorem zro26 : zro Tryd.prog 26 = some (.pointer none) := by kernel_rfl
theorem shp27 : shp Tryd.prog 27 = some (false, 1) := by kernel_rfl
theorem zro27 : zro Tryd.prog 27 = some (.int .i64 0) := by kernel_rfl
theorem shp36 : shp Tryd.prog 36 = some (false, 1) := by kernel_rfl
theorem zro36 : zro Tryd.prog 36 = some (.slice none 0 0) := by kernel_rfl
theorem slc36 : slc Tryd.prog 36 = some (22, 1, 2) := by kernel_rfl
theorem shp37 : shp Tryd.prog 37 = some (false, 1) := by kernel_rfl
theorem zro37 : zro Tryd.prog 37 = some (.slice none 0 0) := by kernel_rfl
theorem slc37 : slc Tryd.prog 37 = some (5, 1, 1) := by kernel_rfl
theorem shp38 : shp Tryd.prog 38 = some (false, 1) := by kernel_rfl
theorem zro38 : zro Tryd.prog 38 = some (.slice none 0 0) := by kernel_rfl
theorem slc38 : slc Tryd.prog 38 = some (9, 1, 16) := by kernel_rfl
theorem shp42 : shp Tryd.prog 42 = some (false, 1) := by kernel_rfl
theorem zro42 : zro Tryd.prog 42 = some (.slice none 0 0) := by kernel_rfl
theorem slc42 : slc Tryd.prog 42 = some (48, 10, 120) := by kernel_rfl
theorem shp44 : shp Tryd.prog 44 = some (false, 1) := by kernel_rfl
theorem zro44 : zro Tryd.prog 44 = some (.pointer none) := by kernel_rfl
theorem shp47 : shp Tryd.prog 47 = some (true, 10) := by kernel_rfl
theorem fld47n0 : fld Tryd.prog 47 0 = some (0, false, 1) := by kernel_rfl
theorem fld47n1 : fld Tryd.prog 47 1 = some (1, false, 1) := by kernel_rfl
theorem fld47n2 : fld Tryd.prog 47 2 = some (2, false, 1) := by kernel_rfl
theorem fld47n3 : fld Tryd.prog 47 3 = some (3, false, 1) := by kernel_rfl
theorem fld47n4 : fld Tryd.prog 47 4 = some (4, false, 1) := by kernel_rfl
theorem fld47n5 : fld Tryd.prog 47 5 = some (5, false, 1) := by kernel_rfl
theorem fld47n6 : fld Tryd.prog 47 6 = some (6, true, 3) := by kernel_rfl
theorem fld47n7 : fld Tryd.prog 47 7 = some (9, false, 1) := by kernel_rfl
theorem bok47 : bldOk Tryd.prog 47 = true := by kernel_rfl
theorem sih47 : Tryd.prog.stoodInHeld 47 = false := by kernel_rfl
theorem egt47 : Tryd.prog.eqGuardType Tryd.prog.depth 47 = false := by kernel_rfl
theorem zro47 : zro Tryd.prog 47 = some (.agg #[.int .u8 0, .int .u8 0, .string ⟨#[]⟩, .string ⟨#[]⟩, .string ⟨#[]⟩, .string ⟨#[]⟩, .string ⟨#[]⟩, .string ⟨#[]⟩, .int .i64 0, .int .i64 0]) := by kernel_rfl
theorem shp48 : shp Tryd.prog 48 = some (true, 10) := by kernel_rfl
theorem fld48n0 : fld Tryd.prog 48 0 = some (0, false, 1) := by kernel_rfl
theorem fld48n1 : fld Tryd.prog 48 1 = some (1, false, 1) := by kernel_rfl
theorem fld48n2 : fld Tryd.prog 48 2 = some (2, false, 1) := by kernel_rfl
theorem fld48n3 : fld Tryd.prog 48 3 = some (3, false, 1) := by kernel_rfl
theorem fld48n4 : fld Tryd.prog 48 4 = some (4, false, 1) := by kernel_rfl
theorem fld48n5 : fld Tryd.prog 48 5 = some (5, false, 1) := by kernel_rfl
theorem fld48n6 : fld Tryd.prog 48 6 = some (6, true, 3) := by kernel_rfl
theorem fld48n7 : fld Tryd.prog 48 7 = some (9, false, 1) := by kernel_rfl
theorem bok48 : bldOk Tryd.prog 48 = true := by kernel_rfl
theorem sih48 : Tryd.prog.stoodInHeld 48 = false := by kernel_rfl
theorem egt48 : Tryd.prog.eqGuardType Tryd.prog.depth 48 = false := by kernel_rfl
theorem zro48 : zro Tryd.prog 48 = some (.agg #[.int .u8 0, .int .u8 0, .string ⟨#[]⟩, .string ⟨#[]⟩, .string ⟨#[]⟩, .string ⟨#[]⟩, .string ⟨#[]⟩, .string ⟨#[]⟩, .int .i64 0, .int .i64 0]) := by kernel_rfl
theorem shp49 : shp Tryd.prog 49 = some (false, 1) := by kernel_rfl
theorem zro49 : zro Tryd.prog 49 = some (.slice none 0 0) := by kernel_rfl
theorem slc49 : slc Tryd.prog 49 = some (53, 7, 88) := by kernel_rfl
theorem shp50 : shp Tryd.prog 50 = some (true, 3) := by kernel_rfl
theorem fld50n0 : fld Tryd.prog 50 0 = some (0, false, 1) := by kernel_rfl
theorem fld50n1 : fld Tryd.prog 50 1 = some (1, false, 1) := by kernel_rfl
theorem fld50n2 : fld Tryd.prog 50 2 = some (2, false, 1) := by kernel_rfl
theorem bok50 : bldOk Tryd.prog 50 = true := by kernel_rfl
theorem sih50 : Tryd.prog.stoodInHeld 50 = false := by kernel_rfl
theorem egt50 : Tryd.prog.eqGuardType Tryd.prog.depth 50 = false := by kernel_rfl
theorem zro50 : zro Tryd.prog 50 = some (.agg #[.string ⟨#[]⟩, .int .i64 0, .slice none 0 0]) := by kernel_rfl
theorem shp51 : shp Tryd.prog 51 = some (true, 3) := by kernel_rfl
theorem fld51n0 : fld Tryd.prog 51 0 = some (0, false, 1) := by kernel_rfl
theorem fld51n1 : fld Tryd.prog 51 1 = some (1, false, 1) := by kernel_rfl
theorem fld51n2 : fld Tryd.prog 51 2 = some (2, false, 1) := by kernel_rfl
theorem bok51 : bldOk Tryd.prog 51 = true := by kernel_rfl
theorem sih51 : Tryd.prog.stoodInHeld 51 = false := by kernel_rfl
theorem egt51 : Tryd.prog.eqGuardType Tryd.prog.depth 51 = false := by kernel_rfl
theorem zro51 : zro Tryd.prog 51 = some (.agg #[.string ⟨#[]⟩, .int .i64 0, .slice none 0 0]) := by kernel_rfl
theorem shp52 : shp Tryd.prog 52 = some (true, 7) := by kernel_rfl
theorem fld52n0 : fld Tryd.prog 52 0 = some (0, false, 1) := by kernel_rfl
theorem fld52n1 : fld Tryd.prog 52 1 = some (1, false, 1) := by kernel_rfl
theorem fld52n2 : fld Tryd.prog 52 2 = some (2, true, 3) := by kernel_rfl
theorem fld52n3 : fld Tryd.prog 52 3 = some (5, false, 1) := by kernel_rfl
theorem fld52n4 : fld Tryd.prog 52 4 = some (6, false, 1) := by kernel_rfl
theorem bok52 : bldOk Tryd.prog 52 = true := by kernel_rfl
theorem sih52 : Tryd.prog.stoodInHeld 52 = false := by kernel_rfl
theorem egt52 : Tryd.prog.eqGuardType Tryd.prog.depth 52 = false := by kernel_rfl
theorem zro52 : zro Tryd.prog 52 = some (.agg #[.string ⟨#[]⟩, .string ⟨#[]⟩, .string ⟨#[]⟩, .string ⟨#[]⟩, .int .i64 0, .int .i64 0, .int .i64 0]) := by kernel_rfl
theorem shp53 : shp Tryd.prog 53 = some (true, 7) := by kernel_rfl
theorem fld53n0 : fld Tryd.prog 53 0 = some (0, false, 1) := by kernel_rfl
theorem fld53n1 : fld Tryd.prog 53 1 = some (1, false, 1) := by kernel_rfl
theorem fld53n2 : fld Tryd.prog 53 2 = some (2, true, 3) := by kernel_rfl
theorem fld53n3 : fld Tryd.prog 53 3 = some (5, false, 1) := by kernel_rfl
theorem fld53n4 : fld Tryd.prog 53 4 = some (6, false, 1) := by kernel_rfl
theorem bok53 : bldOk Tryd.prog 53 = true := by kernel_rfl
theorem sih53 : Tryd.prog.stoodInHeld 53 = false := by kernel_rfl
theorem egt53 : Tryd.prog.eqGuardType Tryd.prog.depth 53 = false := by kernel_rfl
theorem zro53 : zro Tryd.prog 53 = some (.agg #[.string ⟨#[]⟩, .string ⟨#[]⟩, .string ⟨#[]⟩, .string ⟨#[]⟩, .int .i64 0, .int .i64 0, .int .i64 0]) := by kernel_rfl
theorem shp61 : shp Tryd.prog 61 = some (false, 1) := by kernel_rfl
theorem zro61 : zro Tryd.prog 61 = some (.map none) := by kernel_rfl
theorem shp62 : shp Tryd.prog 62 = some (true, 4) := by kernel_rfl
theorem fld62n0 : fld Tryd.prog 62 0 = some (0, false, 1) := by kernel_rfl
theorem fld62n1 : fld Tryd.prog 62 1 = some (1, false, 1) := by kernel_rfl
theorem fld62n2 : fld Tryd.prog 62 2 = some (2, false, 1) := by kernel_rfl
theorem fld62n3 : fld Tryd.prog 62 3 = some (3, false, 1) := by kernel_rfl
theorem bok62 : bldOk Tryd.prog 62 = true := by kernel_rfl
theorem sih62 : Tryd.prog.stoodInHeld 62 = false := by kernel_rfl
theorem egt62 : Tryd.prog.eqGuardType Tryd.prog.depth 62 = false := by kernel_rfl
theorem zro62 : zro Tryd.prog 62 = some (.agg #[.string ⟨#[]⟩, .int .i64 0, .slice none 0 0, .map none]) := by kernel_rfl
theorem shp63 : shp Tryd.prog 63 = some (true, 4) := by kernel_rfl
theorem fld63n0 : fld Tryd.prog 63 0 = some (0, false, 1) := by kernel_rfl
theorem fld63n1 : fld Tryd.prog 63 1 = some (1, false, 1) := by kernel_rfl
theorem fld63n2 : fld Tryd.prog 63 2 = some (2, false, 1) := by kernel_rfl
theorem fld63n3 : fld Tryd.prog 63 3 = some (3, false, 1) := by kernel_rfl
theorem bok63 : bldOk Tryd.prog 63 = true := by kernel_rfl
theorem sih63 : Tryd.prog.stoodInHeld 63 = false := by kernel_rfl
theorem egt63 : Tryd.prog.eqGuardType Tryd.prog.depth 63 = false := by kernel_rfl
theorem zro63 : zro Tryd.prog 63 = some (.agg #[.string ⟨#[]⟩, .int .i64 0, .slice none 0 0, .map none]) := by kernel_rfl
theorem shp68 : shp Tryd.prog 68 = some (false, 1) := by kernel_rfl
theorem zro68 : zro Tryd.prog 68 = some (.pointer none) := by kernel_rfl
theorem shp76 : shp Tryd.prog 76 = some (false, 1) := by kernel_rfl
theorem zro76 : zro Tryd.prog 76 = some (.slice none 0 0) := by kernel_rfl
theorem slc76 : slc Tryd.prog 76 = some (3, 1, 8) := by kernel_rfl
theorem shp80 : shp Tryd.prog 80 = some (false, 1) := by kernel_rfl
theorem zro80 : zro Tryd.prog 80 = some (.int .u64 0) := by kernel_rfl
theorem shp83 : shp Tryd.prog 83 = some (false, 1) := by kernel_rfl
theorem zro83 : zro Tryd.prog 83 = some (.pointer none) := by kernel_rfl
theorem shp84 : shp Tryd.prog 84 = some (true, 2) := by kernel_rfl
theorem fld84n0 : fld Tryd.prog 84 0 = some (0, false, 1) := by kernel_rfl
theorem fld84n1 : fld Tryd.prog 84 1 = some (1, false, 1) := by kernel_rfl
theorem bok84 : bldOk Tryd.prog 84 = true := by kernel_rfl
theorem zro84 : zro Tryd.prog 84 = some (.agg #[.pointer none, .slice none 0 0]) := by kernel_rfl
theorem shp85 : shp Tryd.prog 85 = some (true, 2) := by kernel_rfl
theorem fld85n0 : fld Tryd.prog 85 0 = some (0, false, 1) := by kernel_rfl
theorem fld85n1 : fld Tryd.prog 85 1 = some (1, false, 1) := by kernel_rfl
theorem bok85 : bldOk Tryd.prog 85 = true := by kernel_rfl
theorem zro85 : zro Tryd.prog 85 = some (.agg #[.pointer none, .slice none 0 0]) := by kernel_rfl
theorem shp87 : shp Tryd.prog 87 = some (false, 1) := by kernel_rfl
theorem zro87 : zro Tryd.prog 87 = some (.nilIface) := by kernel_rfl
theorem shp88 : shp Tryd.prog 88 = some (false, 1) := by kernel_rfl
theorem zro88 : zro Tryd.prog 88 = some (.nilIface) := by kernel_rfl
theorem shp95 : shp Tryd.prog 95 = some (false, 1) := by kernel_rfl
theorem zro95 : zro Tryd.prog 95 = some (.int .u32 0) := by kernel_rfl
theorem shp98 : shp Tryd.prog 98 = some (false, 1) := by kernel_rfl
theorem zro98 : zro Tryd.prog 98 = some (.int .u64 0) := by kernel_rfl
theorem shp101 : shp Tryd.prog 101 = some (false, 1) := by kernel_rfl
theorem zro101 : zro Tryd.prog 101 = some (.pointer none) := by kernel_rfl
theorem shp102 : shp Tryd.prog 102 = some (true, 24) := by kernel_rfl
theorem bok102 : bldOk Tryd.prog 102 = false := by kernel_rfl
theorem zro102 : zro Tryd.prog 102 = some (.agg #[.int .u8 0, .int .u8 0, .int .u8 0, .int .u8 0, .int .u8 0, .int .u8 0, .int .u8 0, .int .u8 0, .int .u8 0, .int .u8 0, .int .u8 0, .int .u8 0, .int .u8 0, .int .u8 0, .int .u8 0, .int .u8 0, .int .u8 0, .int .u8 0, .int .u8 0, .int .u8 0, .int .u8 0, .int .u8 0, .int .u8 0, .int .u8 0]) := by kernel_rfl
theorem shp107 : shp Tryd.prog 107 = some (false, 1) := by kernel_rfl
theorem zro107 : zro Tryd.prog 107 = some (.pointer none) := by kernel_rfl
theorem shp113 : shp Tryd.prog 113 = some (true, 20) := by kernel_rfl
theorem bok113 : bldOk Tryd.prog 113 = false := by kernel_rfl
theorem zro113 : zro Tryd.prog 113 = some (.agg #[.int .u64 0, .int .u64 0, .int .u64 0, .int .u64 0, .int .u64 0, .int .u64 0, .int .u64 0, .int .u64 0, .int .u64 0, .int .u64 0, .int .u64 0, .int .u64 0, .int .u64 0, .int .u64 0, .int .u64 0, .int .u64 0, .int .u64 0, .int .u64 0, .int .u64 0, .int .u64 0]) := by kernel_rfl
theorem shp114 : shp Tryd.prog 114 = some (true, 65) := by kernel_rfl
theorem bok114 : bldOk Tryd.prog 114 = false := by kernel_rfl
theorem zro114 : zro Tryd.prog 114 = some (.agg #[.int .u8 0, .int .u8 0, .int .u8 0, .int .u8 0, .int .u8 0, .int .u8 0, .int .u8 0, .int .u8 0, .int .u8 0, .int .u8 0, .int .u8 0, .int .u8 0, .int .u8 0, .int .u8 0, .int .u8 0, .int .u8 0, .int .u8 0, .int .u8 0, .int .u8 0, .int .u8 0, .int .u8 0, .int .u8 0, .int .u8 0, .int .u8 0, .int .u8 0, .int .u8 0, .int .u8 0, .int .u8 0, .int .u8 0, .int .u8 0, .int .u8 0, .int .u8 0, .int .u8 0, .int .u8 0, .int .u8 0, .int .u8 0, .int .u8 0, .int .u8 0, .int .u8 0, .int .u8 0, .int .u8 0, .int .u8 0, .int .u8 0, .int .u8 0, .int .u8 0, .int .u8 0, .int .u8 0, .int .u8 0, .int .u8 0, .int .u8 0, .int .u8 0, .int .u8 0, .int .u8 0, .int .u8 0, .int .u8 0, .int .u8 0, .int .u8 0, .int .u8 0, .int .u8 0, .int .u8 0, .int .u8 0, .int .u8 0, .int .u8 0, .int .u8 0, .int .u8 0]) := by kernel_rfl
theorem shp118 : shp Tryd.prog 118 = some (true, 32) := by kernel_rfl
theorem bok118 : bldOk Tryd.prog 118 = false := by kernel_rfl
theorem zro118 : zro Tryd.prog 118 = some (.agg #[.int .u8 0, .int .u8 0, .int .u8 0, .int .u8 0, .int .u8 0, .int .u8 0, .int .u8 0, .int .u8 0, .int .u8 0, .int .u8 0, .int .u8 0, .int .u8 0, .int .u8 0, .int .u8 0, .int .u8 0, .int .u8 0, .int .u8 0, .int .u8 0, .int .u8 0, .int .u8 0, .int .u8 0, .int .u8 0, .int .u8 0, .int .u8 0, .int .u8 0, .int .u8 0, .int .u8 0, .int .u8 0, .int .u8 0, .int .u8 0, .int .u8 0, .int .u8 0]) := by kernel_rfl
theorem shp119 : shp Tryd.prog 119 = some (true, 64) := by kernel_rfl
theorem bok119 : bldOk Tryd.prog 119 = false := by kernel_rfl
theorem zro119 : zro Tryd.prog 119 = some (.agg #[.int .u8 0, .int .u8 0, .int .u8 0, .int .u8 0, .int .u8 0, .int .u8 0, .int .u8 0, .int .u8 0, .int .u8 0, .int .u8 0, .int .u8 0, .int .u8 0, .int .u8 0, .int .u8 0, .int .u8 0, .int .u8 0, .int .u8 0, .int .u8 0, .int .u8 0, .int .u8 0, .int .u8 0, .int .u8 0, .int .u8 0, .int .u8 0, .int .u8 0, .int .u8 0, .int .u8 0, .int .u8 0, .int .u8 0, .int .u8 0, .int .u8 0, .int .u8 0, .int .u8 0, .int .u8 0, .int .u8 0, .int .u8 0, .int .u8 0, .int .u8 0, .int .u8 0, .int .u8 0, .int .u8 0, .int .u8 0, .int .u8 0, .int .u8 0, .int .u8 0, .int .u8 0, .int .u8 0, .int .u8 0, .int .u8 0, .int .u8 0, .int .u8 0, .int .u8 0, .int .u8 0, .int .u8 0, .int .u8 0, .int .u8 0, .int .u8 0, .int .u8 0, .int .u8 0, .int .u8 0, .int .u8 0, .int .u8 0, .int .u8 0, .int .u8 0]) := by kernel_rfl
theorem shp120 : shp Tryd.prog 120 = some (true, 4) := by kernel_rfl
theorem fld120n0 : fld Tryd.prog 120 0 = some (0, false, 1) := by kernel_rfl
theorem fld120n1 : fld Tryd.prog 120 1 = some (1, false, 1) := by kernel_rfl
theorem fld120n2 : fld Tryd.prog 120 2 = some (2, false, 1) := by kernel_rfl
theorem fld120n3 : fld Tryd.prog 120 3 = some (3, false, 1) := by kernel_rfl
theorem bok120 : bldOk Tryd.prog 120 = true := by kernel_rfl
theorem zro120 : zro Tryd.prog 120 = some (.agg #[.pointer none, .pointer none, .pointer none, .string ⟨#[]⟩]) := by kernel_rfl
theorem shp121 : shp Tryd.prog 121 = some (true, 4) := by kernel_rfl
theorem fld121n0 : fld Tryd.prog 121 0 = some (0, false, 1) := by kernel_rfl
theorem fld121n1 : fld Tryd.prog 121 1 = some (1, false, 1) := by kernel_rfl
theorem fld121n2 : fld Tryd.prog 121 2 = some (2, false, 1) := by kernel_rfl
theorem fld121n3 : fld Tryd.prog 121 3 = some (3, false, 1) := by kernel_rfl
theorem bok121 : bldOk Tryd.prog 121 = true := by kernel_rfl
theorem zro121 : zro Tryd.prog 121 = some (.agg #[.pointer none, .pointer none, .pointer none, .string ⟨#[]⟩]) := by kernel_rfl
theorem shp122 : shp Tryd.prog 122 = some (true, 0) := by kernel_rfl
theorem bok122 : bldOk Tryd.prog 122 = false := by kernel_rfl
theorem zro122 : zro Tryd.prog 122 = some (.agg #[]) := by kernel_rfl
theorem shp123 : shp Tryd.prog 123 = some (true, 0) := by kernel_rfl
theorem fld123n0 : fld Tryd.prog 123 0 = some (0, true, 0) := by kernel_rfl
theorem bok123 : bldOk Tryd.prog 123 = true := by kernel_rfl
theorem zro123 : zro Tryd.prog 123 = some (.agg #[]) := by kernel_rfl
theorem shp124 : shp Tryd.prog 124 = some (true, 0) := by kernel_rfl
theorem fld124n0 : fld Tryd.prog 124 0 = some (0, true, 0) := by kernel_rfl
theorem bok124 : bldOk Tryd.prog 124 = true := by kernel_rfl
theorem zro124 : zro Tryd.prog 124 = some (.agg #[]) := by kernel_rfl
theorem shp125 : shp Tryd.prog 125 = some (false, 1) := by kernel_rfl
theorem zro125 : zro Tryd.prog 125 = some (.int .u8 0) := by kernel_rfl
theorem shp126 : shp Tryd.prog 126 = some (false, 1) := by kernel_rfl
theorem zro126 : zro Tryd.prog 126 = some (.int .u8 0) := by kernel_rfl
theorem shp128 : shp Tryd.prog 128 = some (false, 1) := by kernel_rfl
theorem zro128 : zro Tryd.prog 128 = some (.int .i32 0) := by kernel_rfl
theorem shp129 : shp Tryd.prog 129 = some (false, 1) := by kernel_rfl
theorem zro129 : zro Tryd.prog 129 = some (.int .i32 0) := by kernel_rfl
theorem shp130 : shp Tryd.prog 130 = some (true, 11) := by kernel_rfl
theorem fld130n0 : fld Tryd.prog 130 0 = some (0, false, 1) := by kernel_rfl
theorem fld130n1 : fld Tryd.prog 130 1 = some (1, false, 1) := by kernel_rfl
theorem fld130n2 : fld Tryd.prog 130 2 = some (2, false, 1) := by kernel_rfl
theorem fld130n3 : fld Tryd.prog 130 3 = some (3, false, 1) := by kernel_rfl
theorem fld130n4 : fld Tryd.prog 130 4 = some (4, false, 1) := by kernel_rfl
theorem fld130n5 : fld Tryd.prog 130 5 = some (5, false, 1) := by kernel_rfl
theorem fld130n6 : fld Tryd.prog 130 6 = some (6, false, 1) := by kernel_rfl
theorem fld130n7 : fld Tryd.prog 130 7 = some (7, false, 1) := by kernel_rfl
theorem fld130n8 : fld Tryd.prog 130 8 = some (8, false, 1) := by kernel_rfl
theorem fld130n9 : fld Tryd.prog 130 9 = some (9, false, 1) := by kernel_rfl
theorem fld130n10 : fld Tryd.prog 130 10 = some (10, false, 1) := by kernel_rfl
theorem bok130 : bldOk Tryd.prog 130 = true := by kernel_rfl
theorem zro130 : zro Tryd.prog 130 = some (.agg #[.int .u64 0, .int .u64 0, .int .u32 0, .int .u8 0, .int .u8 0, .int .u8 0, .int .u8 0, .nilFunc, .pointer none, .int .i32 0, .int .i32 0]) := by kernel_rfl
theorem shp131 : shp Tryd.prog 131 = some (true, 11) := by kernel_rfl
theorem fld131n0 : fld Tryd.prog 131 0 = some (0, false, 1) := by kernel_rfl
theorem fld131n1 : fld Tryd.prog 131 1 = some (1, false, 1) := by kernel_rfl
theorem fld131n2 : fld Tryd.prog 131 2 = some (2, false, 1) := by kernel_rfl
theorem fld131n3 : fld Tryd.prog 131 3 = some (3, false, 1) := by kernel_rfl
theorem fld131n4 : fld Tryd.prog 131 4 = some (4, false, 1) := by kernel_rfl
theorem fld131n5 : fld Tryd.prog 131 5 = some (5, false, 1) := by kernel_rfl
theorem fld131n6 : fld Tryd.prog 131 6 = some (6, false, 1) := by kernel_rfl
theorem fld131n7 : fld Tryd.prog 131 7 = some (7, false, 1) := by kernel_rfl
theorem fld131n8 : fld Tryd.prog 131 8 = some (8, false, 1) := by kernel_rfl
theorem fld131n9 : fld Tryd.prog 131 9 = some (9, false, 1) := by kernel_rfl
theorem fld131n10 : fld Tryd.prog 131 10 = some (10, false, 1) := by kernel_rfl
theorem bok131 : bldOk Tryd.prog 131 = true := by kernel_rfl
theorem zro131 : zro Tryd.prog 131 = some (.agg #[.int .u64 0, .int .u64 0, .int .u32 0, .int .u8 0, .int .u8 0, .int .u8 0, .int .u8 0, .nilFunc, .pointer none, .int .i32 0, .int .i32 0]) := by kernel_rfl
theorem cal2 : callable Tryd.prog 2 = true := by kernel_rfl
theorem cal3 : callable Tryd.prog 3 = true := by kernel_rfl
theorem cal4 : callable Tryd.prog 4 = true := by kernel_rfl
theorem cal5 : callable Tryd.prog 5 = true := by kernel_rfl
theorem cal6 : callable Tryd.prog 6 = true := by kernel_rfl
theorem cal7 : callable Tryd.prog 7 = true := by kernel_rfl
theorem cal8 : callable Tryd.prog 8 = true := by kernel_rfl
theorem cal9 : callable Tryd.prog 9 = true := by kernel_rfl
theorem cal10 : callable Tryd.prog 10 = true := by kernel_rfl
theorem cal11 : callable Tryd.prog 11 = true := by kernel_rfl
theorem cal12 : callable Tryd.prog 12 = true := by kernel_rfl
theorem cal13 : callable Tryd.prog 13 = true := by kernel_rfl
theorem cal14 : callable Tryd.prog 14 = true := by kernel_rfl
theorem cal15 : callable Tryd.prog 15 = true := by kernel_rfl
theorem cal16 : callable Tryd.prog 16 = true := by kernel_rfl
theorem cal17 : callable Tryd.prog 17 = true := by kernel_rfl
theorem cal18 : callable Tryd.prog 18 = true := by kernel_rfl
theorem cal19 : callable Tryd.prog 19 = true := by kernel_rfl
theorem cal20 : callable Tryd.prog 20 = true := by kernel_rfl
theorem cal21 : callable Tryd.prog 21 = true := by kernel_rfl
theorem cal22 : callable Tryd.prog 22 = true := by kernel_rfl
theorem cal23 : callable Tryd.prog 23 = true := by kernel_rfl
theorem cal24 : callable Tryd.prog 24 = true := by kernel_rfl
theorem cal25 : callable Tryd.prog 25 = true := by kernel_rfl
theorem cal26 : callable Tryd.prog 26 = true := by kernel_rfl
theorem cal27 : callable Tryd.prog 27 = true := by kernel_rfl
theorem cal28 : callable Tryd.prog 28 = true := by kernel_rfl
theorem cal29 : callable Tryd.prog 29 = true := by kernel_rfl
theorem cal30 : callable Tryd.prog 30 = true := by kernel_rfl
theorem cal31 : callable Tryd.prog 31 = true := by kernel_rfl
theorem cal32 : callable Tryd.prog 32 = true := by kernel_rfl
theorem cal33 : callable Tryd.prog 33 = true := by kernel_rfl
theorem cal34 : callable Tryd.prog 34 = true := by kernel_rfl
theorem cal35 : callable Tryd.prog 35 = true := by kernel_rfl
theorem cal36 : callable Tryd.prog 36 = true := by kernel_rfl
theorem cal37 : callable Tryd.prog 37 = true := by kernel_rfl
theorem cal38 : callable Tryd.prog 38 = true := by kernel_rfl
theorem cal39 : callable Tryd.prog 39 = true := by kernel_rfl
theorem cal40 : callable Tryd.prog 40 = true := by kernel_rfl
theorem cal41 : callable Tryd.prog 41 = true := by kernel_rfl
theorem cal42 : callable Tryd.prog 42 = true := by kernel_rfl
theorem cal43 : callable Tryd.prog 43 = true := by kernel_rfl
theorem cal44 : callable Tryd.prog 44 = true := by kernel_rfl
theorem cal45 : callable Tryd.prog 45 = true := by kernel_rfl
theorem cal46 : callable Tryd.prog 46 = true := by kernel_rfl
theorem cal47 : callable Tryd.prog 47 = true := by kernel_rfl
theorem cal48 : callable Tryd.prog 48 = true := by kernel_rfl
theorem cal49 : callable Tryd.prog 49 = true := by kernel_rfl
theorem cal50 : callable Tryd.prog 50 = true := by kernel_rfl
theorem cal51 : callable Tryd.prog 51 = true := by kernel_rfl
theorem cal52 : callable Tryd.prog 52 = true := by kernel_rfl
theorem cal53 : callable Tryd.prog 53 = true := by kernel_rfl
theorem cal54 : callable Tryd.prog 54 = true := by kernel_rfl
theorem cal55 : callable Tryd.prog 55 = true := by kernel_rfl
theorem cal56 : callable Tryd.prog 56 = true := by kernel_rfl
theorem cal57 : callable Tryd.prog 57 = true := by kernel_rfl
theorem cal58 : callable Tryd.prog 58 = true := by kernel_rfl
theorem cal59 : callable Tryd.prog 59 = true := by kernel_rfl
theorem cal60 : callable Tryd.prog 60 = true := by kernel_rfl
theorem cal61 : callable Tryd.prog 61 = true := by kernel_rfl
theorem cal62 : callable Tryd.prog 62 = true := by kernel_rfl
theorem cal63 : callable Tryd.prog 63 = true := by kernel_rfl
theorem cal64 : callable Tryd.prog 64 = true := by kernel_rfl
theorem cal65 : callable Tryd.prog 65 = true := by kernel_rfl
theorem cal66 : callable Tryd.prog 66 = true := by kernel_rfl
theorem cal67 : callable Tryd.prog 67 = true := by kernel_rfl
theorem cal68 : callable Tryd.prog 68 = true := by kernel_rfl
theorem cal69 : callable Tryd.prog 69 = true := by kernel_rfl
theorem cal70 : callable Tryd.prog 70 = true := by kernel_rfl
theorem cal71 : callable Tryd.prog 71 = true := by kernel_rfl
theorem cal72 : callable Tryd.prog 72 = true := by kernel_rfl
theorem cal73 : callable Tryd.prog 73 = true := by kernel_rfl
theorem cal74 : callable Tryd.prog 74 = true := by kernel_rfl
theorem cal75 : callable Tryd.prog 75 = true := by kernel_rfl
theorem cal76 : callable Tryd.prog 76 = true := by kernel_rfl
theorem cal77 : callable Tryd.prog 77 = true := by kernel_rfl
theorem cal80 : callable Tryd.prog 80 = true := by kernel_rfl
theorem cal82 : callable Tryd.prog 82 = true := by kernel_rfl
theorem cal83 : callable Tryd.prog 83 = true := by kernel_rfl
theorem cal84 : callable Tryd.prog 84 = true := by kernel_rfl
theorem cal85 : callable Tryd.prog 85 = true := by kernel_rfl
theorem cal86 : callable Tryd.prog 86 = true := by kernel_rfl
theorem cal87 : callable Tryd.prog 87 = true := by kernel_rfl
theorem cal88 : callable Tryd.prog 88 = true := by kernel_rfl
theorem cal90 : callable Tryd.prog 90 = true := by kernel_rfl
theorem cal91 : callable Tryd.prog 91 = true := by kernel_rfl
theorem cal92 : callable Tryd.prog 92 = true := by kernel_rfl
theorem cal115 : callable Tryd.prog 115 = true := by kernel_rfl
theorem cal0 : callable Tryd.prog 0 = false := by kernel_rfl
theorem cal1 : callable Tryd.prog 1 = false := by kernel_rfl
theorem cal78 : callable Tryd.prog 78 = false := by kernel_rfl
theorem cal79 : callable Tryd.prog 79 = false := by kernel_rfl
theorem cal81 : callable Tryd.prog 81 = false := by kernel_rfl
theorem cal89 : callable Tryd.prog 89 = false := by kernel_rfl
theorem cal93 : callable Tryd.prog 93 = false := by kernel_rfl
theorem cal94 : callable Tryd.prog 94 = false := by kernel_rfl
theorem cal95 : callable Tryd.prog 95 = false := by kernel_rfl
theorem cal96 : callable Tryd.prog 96 = false := by kernel_rfl
theorem cal97 : callable Tryd.prog 97 = false := by kernel_rfl
theorem cal98 : callable Tryd.prog 98 = false := by kernel_rfl
theorem cal99 : callable Tryd.prog 99 = false := by kernel_rfl
theorem cal100 : callable Tryd.prog 100 = false := by kernel_rfl
theorem cal101 : callable Tryd.prog 101 = false := by kernel_rfl
theorem cal102 : callable Tryd.prog 102 = false := by kernel_rfl
theorem cal103 : callable Tryd.prog 103 = false := by kernel_rfl
theorem cal104 : callable Tryd.prog 104 = false := by kernel_rfl
theorem cal105 : callable Tryd.prog 105 = false := by kernel_rfl
theorem cal106 : callable Tryd.prog 106 = false := by kernel_rfl
theorem cal107 : callable Tryd.prog 107 = false := by kernel_rfl
theorem cal108 : callable Tryd.prog 108 = false := by kernel_rfl
theorem cal109 : callable Tryd.prog 109 = false := by kernel_rfl
theorem cal110 : callable Tryd.prog 110 = false := by kernel_rfl
theorem cal111 : callable Tryd.prog 111 = false := by kernel_rfl
theorem cal112 : callable Tryd.prog 112 = false := by kernel_rfl
theorem cal113 : callable Tryd.prog 113 = false := by kernel_rfl
theorem cal114 : callable Tryd.prog 114 = false := by kernel_rfl
theorem tyS0 : type_of% (And.intro @shp2 (And.intro @zro2 (And.intro @shp3 (And.intro @zro3 (And.intro @shp4 (And.intro @zro4 (And.intro @shp5 (And.intro @zro5 (And.intro @shp6 (And.intro @zro6 (And.intro @shp7 (And.intro @fld7n0 (And.intro @fld7n1 (And.intro @fld7n2 (And.intro @fld7n3 (And.intro @bok7 (And.intro @zro7 (And.intro @shp8 (And.intro @fld8n0 (And.intro @fld8n1 (And.intro @fld8n2 (And.intro @fld8n3 (And.intro @bok8 (And.intro @zro8 (And.intro @shp9 (And.intro @zro9 (And.intro @shp10 (And.intro @zro10 (And.intro @shp11 (And.intro @zro11 (And.intro @shp12 (And.intro @zro12 (And.intro @shp13 (And.intro @fld13n0 (And.intro @fld13n1 (And.intro @bok13 (And.intro @zro13 (And.intro @shp14 (And.intro @fld14n0 (And.intro @fld14n1 (And.intro @bok14 (And.intro @zro14 (And.intro @shp15 (And.intro @zro15 (And.intro @shp16 (And.intro @zro16 (And.intro @shp17 (And.intro @zro17 (And.intro @shp18 (And.intro @fld18n0 (And.intro @bok18 (And.intro @zro18 (And.intro @shp19 (And.intro @fld19n0 (And.intro @bok19 (And.intro @zro19 (And.intro @shp20 (And.intro @zro20 (And.intro @shp21 (And.intro @zro21 (And.intro @shp22 (And.intro @zro22 (And.intro @shp23 (And.intro @fld23n0 (And.intro @fld23n1 (And.intro @fld23n2 (And.intro @bok23 (And.intro @sih23 (And.intro @egt23 (And.intro @zro23 (And.intro @shp24 (And.intro @fld24n0 (And.intro @fld24n1 (And.intro @fld24n2 (And.intro @bok24 (And.intro @sih24 (And.intro @egt24 (And.intro @zro24 (And.intro @shp26 (And.intro @zro26 (And.intro @shp27 (And.intro @zro27 (And.intro @shp36 (And.intro @zro36 (And.intro @slc36 (And.intro @shp37 (And.intro @zro37 (And.intro @slc37 (And.intro @shp38 (And.intro @zro38 (And.intro @slc38 (And.intro @shp42 (And.intro @zro42 (And.intro @slc42 (And.intro @shp44 (And.intro @zro44 (And.intro @shp47 (And.intro @fld47n0 (And.intro @fld47n1 (@fld47n2)))))))))))))))))))))))))))))))))))))))))))))))))))))))))))))))))))))))))))))))))))))))))))))))))))) := And.intro @shp2 (And.intro @zro2 (And.intro @shp3 (And.intro @zro3 (And.intro @shp4 (And.intro @zro4 (And.intro @shp5 (And.intro @zro5 (And.intro @shp6 (And.intro @zro6 (And.intro @shp7 (And.intro @fld7n0 (And.intro @fld7n1 (And.intro @fld7n2 (And.intro @fld7n3 (And.intro @bok7 (And.intro @zro7 (And.intro @shp8 (And.intro @fld8n0 (And.intro @fld8n1 (And.intro @fld8n2 (And.intro @fld8n3 (And.intro @bok8 (And.intro @zro8 (And.intro @shp9 (And.intro @zro9 (And.intro @shp10 (And.intro @zro10 (And.intro @shp11 (And.intro @zro11 (And.intro @shp12 (And.intro @zro12 (And.intro @shp13 (And.intro @fld13n0 (And.intro @fld13n1 (And.intro @bok13 (And.intro @zro13 (And.intro @shp14 (And.intro @fld14n0 (And.intro @fld14n1 (And.intro @bok14 (And.intro @zro14 (And.intro @shp15 (And.intro @zro15 (And.intro @shp16 (And.intro @zro16 (And.intro @shp17 (And.intro @zro17 (And.intro @shp18 (And.intro @fld18n0 (And.intro @bok18 (And.intro @zro18 (And.intro @shp19 (And.intro @fld19n0 (And.intro @bok19 (And.intro @zro19 (And.intro @shp20 (And.intro @zro20 (And.intro @shp21 (And.intro @zro21 (And.intro @shp22 (And.intro @zro22 (And.intro @shp23 (And.intro @fld23n0 (And.intro @fld23n1 (And.intro @fld23n2 (And.intro @bok23 (And.intro @sih23 (And.intro @egt23 (And.intro @zro23 (And.intro @shp24 (And.intro @fld24n0 (And.intro @fld24n1 (And.intro @fld24n2 (And.intro @bok24 (And.intro @sih24 (And.intro @egt24 (And.intro @zro24 (And.intro @shp26 (And.intro @zro26 (And.intro @shp27 (And.intro @zro27 (And.intro @shp36 (And.intro @zro36 (And.intro @slc36 (And.intro @shp37 (And.intro @zro37 (And.intro @slc37 (And.intro @shp38 (And.intro @zro38 (And.intro @slc38 (And.intro @shp42 (And.intro @zro42 (And.intro @slc42 (And.intro @shp44 (And.intro @zro44 (And.intro @shp47 (And.intro @fld47n0 (And.intro @fld47n1 (@fld47n2)))))))))))))))))))))))))))))))))))))))))))))))))))))))))))))))))))))))))))))))))))))))))))))))))))
theorem tyS1 : type_of% (And.intro @fld47n3 (And.intro @fld47n4 (And.intro @fld47n5 (And.intro @fld47n6 (And.intro @fld47n7 (And.intro @bok47 (And.intro @sih47 (And.intro @egt47 (And.intro @zro47 (And.intro @shp48 (And.intro @fld48n0 (And.intro @fld48n1 (And.intro @fld48n2 (And.intro @fld48n3 (And.intro @fld48n4 (And.intro @fld48n5 (And.intro @fld48n6 (And.intro @fld48n7 (And.intro @bok48 (And.intro @sih48 (And.intro @egt48 (And.intro @zro48 (And.intro @shp49 (And.intro @zro49 (And.intro @slc49 (And.intro @shp50 (And.intro @fld50n0 (And.intro @fld50n1 (And.intro @fld50n2 (And.intro @bok50 (And.intro @sih50 (And.intro @egt50 (And.intro @zro50 (And.intro @shp51 (And.intro @fld51n0 (And.intro @fld51n1 (And.intro @fld51n2 (And.intro @bok51 (And.intro @sih51 (And.intro @egt51 (And.intro @zro51 (And.intro @shp52 (And.intro @fld52n0 (And.intro @fld52n1 (And.intro @fld52n2 (And.intro @fld52n3 (And.intro @fld52n4 (And.intro @bok52 (And.intro @sih52 (And.intro @egt52 (And.intro @zro52 (And.intro @shp53 (And.intro @fld53n0 (And.intro @fld53n1 (And.intro @fld53n2 (And.intro @fld53n3 (And.intro @fld53n4 (And.intro @bok53 (And.intro @sih53 (And.intro @egt53 (And.intro @zro53 (And.intro @shp61 (And.intro @zro61 (And.intro @shp62 (And.intro @fld62n0 (And.intro @fld62n1 (And.intro @fld62n2 (And.intro @fld62n3 (And.intro @bok62 (And.intro @sih62 (And.intro @egt62 (And.intro @zro62 (And.intro @shp63 (And.intro @fld63n0 (And.intro @fld63n1 (And.intro @fld63n2 (And.intro @fld63n3 (And.intro @bok63 (And.intro @sih63 (And.intro @egt63 (And.intro @zro63 (And.intro @shp68 (And.intro @zro68 (And.intro @shp76 (And.intro @zro76 (And.intro @slc76 (And.intro @shp80 (And.intro @zro80 (And.intro @shp83 (And.intro @zro83 (And.intro @shp84 (And.intro @fld84n0 (And.intro @fld84n1 (And.intro @bok84 (And.intro @zro84 (And.intro @shp85 (And.intro @fld85n0 (And.intro @fld85n1 (And.intro @bok85 (@zro85)))))))))))))))))))))))))))))))))))))))))))))))))))))))))))))))))))))))))))))))))))))))))))))))))))) := And.intro @fld47n3 (And.intro @fld47n4 (And.intro @fld47n5 (And.intro @fld47n6 (And.intro @fld47n7 (And.intro @bok47 (And.intro @sih47 (And.intro @egt47 (And.intro @zro47 (And.intro @shp48 (And.intro @fld48n0 (And.intro @fld48n1 (And.intro @fld48n2 (And.intro @fld48n3 (And.intro @fld48n4 (And.intro @fld48n5 (And.intro @fld48n6 (And.intro @fld48n7 (And.intro @bok48 (And.intro @sih48 (And.intro @egt48 (And.intro @zro48 (And.intro @shp49 (And.intro @zro49 (And.intro @slc49 (And.intro @shp50 (And.intro @fld50n0 (And.intro @fld50n1 (And.intro @fld50n2 (And.intro @bok50 (And.intro @sih50 (And.intro @egt50 (And.intro @zro50 (And.intro @shp51 (And.intro @fld51n0 (And.intro @fld51n1 (And.intro @fld51n2 (And.intro @bok51 (And.intro @sih51 (And.intro @egt51 (And.intro @zro51 (And.intro @shp52 (And.intro @fld52n0 (And.intro @fld52n1 (And.intro @fld52n2 (And.intro @fld52n3 (And.intro @fld52n4 (And.intro @bok52 (And.intro @sih52 (And.intro @egt52 (And.intro @zro52 (And.intro @shp53 (And.intro @fld53n0 (And.intro @fld53n1 (And.intro @fld53n2 (And.intro @fld53n3 (And.intro @fld53n4 (And.intro @bok53 (And.intro @sih53 (And.intro @egt53 (And.intro @zro53 (And.intro @shp61 (And.intro @zro61 (And.intro @shp62 (And.intro @fld62n0 (And.intro @fld62n1 (And.intro @fld62n2 (And.intro @fld62n3 (And.intro @bok62 (And.intro @sih62 (And.intro @egt62 (And.intro @zro62 (And.intro @shp63 (And.intro @fld63n0 (And.intro @fld63n1 (And.intro @fld63n2 (And.intro @fld63n3 (And.intro @bok63 (And.intro @sih63 (And.intro @egt63 (And.intro @zro63 (And.intro @shp68 (And.intro @zro68 (And.intro @shp76 (And.intro @zro76 (And.intro @slc76 (And.intro @shp80 (And.intro @zro80 (And.intro @shp83 (And.intro @zro83 (And.intro @shp84 (And.intro @fld84n0 (And.intro @fld84n1 (And.intro @bok84 (And.intro @zro84 (And.intro @shp85 (And.intro @fld85n0 (And.intro @fld85n1 (And.intro @bok85 (@zro85)))))))))))))))))))))))))))))))))))))))))))))))))))))))))))))))))))))))))))))))))))))))))))))))))))
theorem tyS2 : type_of% (And.intro @shp87 (And.intro @zro87 (And.intro @shp88 (And.intro @zro88 (And.intro @shp95 (And.intro @zro95 (And.intro @shp98 (And.intro @zro98 (And.intro @shp101 (And.intro @zro101 (And.intro @shp102 (And.intro @bok102 (And.intro @zro102 (And.intro @shp107 (And.intro @zro107 (And.intro @shp113 (And.intro @bok113 (And.intro @zro113 (And.intro @shp114 (And.intro @bok114 (And.intro @zro114 (And.intro @shp118 (And.intro @bok118 (And.intro @zro118 (And.intro @shp119 (And.intro @bok119 (And.intro @zro119 (And.intro @shp120 (And.intro @fld120n0 (And.intro @fld120n1 (And.intro @fld120n2 (And.intro @fld120n3 (And.intro @bok120 (And.intro @zro120 (And.intro @shp121 (And.intro @fld121n0 (And.intro @fld121n1 (And.intro @fld121n2 (And.intro @fld121n3 (And.intro @bok121 (And.intro @zro121 (And.intro @shp122 (And.intro @bok122 (And.intro @zro122 (And.intro @shp123 (And.intro @fld123n0 (And.intro @bok123 (And.intro @zro123 (And.intro @shp124 (And.intro @fld124n0 (And.intro @bok124 (And.intro @zro124 (And.intro @shp125 (And.intro @zro125 (And.intro @shp126 (And.intro @zro126 (And.intro @shp128 (And.intro @zro128 (And.intro @shp129 (And.intro @zro129 (And.intro @shp130 (And.intro @fld130n0 (And.intro @fld130n1 (And.intro @fld130n2 (And.intro @fld130n3 (And.intro @fld130n4 (And.intro @fld130n5 (And.intro @fld130n6 (And.intro @fld130n7 (And.intro @fld130n8 (And.intro @fld130n9 (And.intro @fld130n10 (And.intro @bok130 (And.intro @zro130 (And.intro @shp131 (And.intro @fld131n0 (And.intro @fld131n1 (And.intro @fld131n2 (And.intro @fld131n3 (And.intro @fld131n4 (And.intro @fld131n5 (And.intro @fld131n6 (And.intro @fld131n7 (And.intro @fld131n8 (And.intro @fld131n9 (And.intro @fld131n10 (And.intro @bok131 (And.intro @zro131 (And.intro @cal2 (And.intro @cal3 (And.intro @cal4 (And.intro @cal5 (And.intro @cal6 (And.intro @cal7 (And.intro @cal8 (And.intro @cal9 (And.intro @cal10 (And.intro @cal11 (And.intro @cal12 (@cal13)))))))))))))))))))))))))))))))))))))))))))))))))))))))))))))))))))))))))))))))))))))))))))))))))))) := And.intro @shp87 (And.intro @zro87 (And.intro @shp88 (And.intro @zro88 (And.intro @shp95 (And.intro @zro95 (And.intro @shp98 (And.intro @zro98 (And.intro @shp101 (And.intro @zro101 (And.intro @shp102 (And.intro @bok102 (And.intro @zro102 (And.intro @shp107 (And.intro @zro107 (And.intro @shp113 (And.intro @bok113 (And.intro @zro113 (And.intro @shp114 (And.intro @bok114 (And.intro @zro114 (And.intro @shp118 (And.intro @bok118 (And.intro @zro118 (And.intro @shp119 (And.intro @bok119 (And.intro @zro119 (And.intro @shp120 (And.intro @fld120n0 (And.intro @fld120n1 (And.intro @fld120n2 (And.intro @fld120n3 (And.intro @bok120 (And.intro @zro120 (And.intro @shp121 (And.intro @fld121n0 (And.intro @fld121n1 (And.intro @fld121n2 (And.intro @fld121n3 (And.intro @bok121 (And.intro @zro121 (And.intro @shp122 (And.intro @bok122 (And.intro @zro122 (And.intro @shp123 (And.intro @fld123n0 (And.intro @bok123 (And.intro @zro123 (And.intro @shp124 (And.intro @fld124n0 (And.intro @bok124 (And.intro @zro124 (And.intro @shp125 (And.intro @zro125 (And.intro @shp126 (And.intro @zro126 (And.intro @shp128 (And.intro @zro128 (And.intro @shp129 (And.intro @zro129 (And.intro @shp130 (And.intro @fld130n0 (And.intro @fld130n1 (And.intro @fld130n2 (And.intro @fld130n3 (And.intro @fld130n4 (And.intro @fld130n5 (And.intro @fld130n6 (And.intro @fld130n7 (And.intro @fld130n8 (And.intro @fld130n9 (And.intro @fld130n10 (And.intro @bok130 (And.intro @zro130 (And.intro @shp131 (And.intro @fld131n0 (And.intro @fld131n1 (And.intro @fld131n2 (And.intro @fld131n3 (And.intro @fld131n4 (And.intro @fld131n5 (And.intro @fld131n6 (And.intro @fld131n7 (And.intro @fld131n8 (And.intro @fld131n9 (And.intro @fld131n10 (And.intro @bok131 (And.intro @zro131 (And.intro @cal2 (And.intro @cal3 (And.intro @cal4 (And.intro @cal5 (And.intro @cal6 (And.intro @cal7 (And.intro @cal8 (And.intro @cal9 (And.intro @cal10 (And.intro @cal11 (And.intro @cal12 (@cal13)))))))))))))))))))))))))))))))))))))))))))))))))))))))))))))))))))))))))))))))))))))))))))))))))))
theorem tyS3 : type_of% (And.intro @cal14 (And.intro @cal15 (And.intro @cal16 (And.intro @cal17 (And.intro @cal18 (And.intro @cal19 (And.intro @cal20 (And.intro @cal21 (And.intro @cal22 (And.intro @cal23 (And.intro @cal24 (And.intro @cal25 (And.intro @cal26 (And.intro @cal27 (And.intro @cal28 (And.intro @cal29 (And.intro @cal30 (And.intro @cal31 (And.intro @cal32 (And.intro @cal33 (And.intro @cal34 (And.intro @cal35 (And.intro @cal36 (And.intro @cal37 (And.intro @cal38 (And.intro @cal39 (And.intro @cal40 (And.intro @cal41 (And.intro @cal42 (And.intro @cal43 (And.intro @cal44 (And.intro @cal45 (And.intro @cal46 (And.intro @cal47 (And.intro @cal48 (And.intro @cal49 (And.intro @cal50 (And.intro @cal51 (And.intro @cal52 (And.intro @cal53 (And.intro @cal54 (And.intro @cal55 (And.intro @cal56 (And.intro @cal57 (And.intro @cal58 (And.intro @cal59 (And.intro @cal60 (And.intro @cal61 (And.intro @cal62 (And.intro @cal63 (And.intro @cal64 (And.intro @cal65 (And.intro @cal66 (And.intro @cal67 (And.intro @cal68 (And.intro @cal69 (And.intro @cal70 (And.intro @cal71 (And.intro @cal72 (And.intro @cal73 (And.intro @cal74 (And.intro @cal75 (And.intro @cal76 (And.intro @cal77 (And.intro @cal80 (And.intro @cal82 (And.intro @cal83 (And.intro @cal84 (And.intro @cal85 (And.intro @cal86 (And.intro @cal87 (And.intro @cal88 (And.intro @cal90 (And.intro @cal91 (And.intro @cal92 (And.intro @cal115 (And.intro @cal0 (And.intro @cal1 (And.intro @cal78 (And.intro @cal79 (And.intro @cal81 (And.intro @cal89 (And.intro @cal93 (And.intro @cal94 (And.intro @cal95 (And.intro @cal96 (And.intro @cal97 (And.intro @cal98 (And.intro @cal99 (And.intro @cal100 (And.intro @cal101 (And.intro @cal102 (And.intro @cal103 (And.intro @cal104 (And.intro @cal105 (And.intro @cal106 (And.intro @cal107 (And.intro @cal108 (And.intro @cal109 (@cal110)))))))))))))))))))))))))))))))))))))))))))))))))))))))))))))))))))))))))))))))))))))))))))))))))))) := And.intro @cal14 (And.intro @cal15 (And.intro @cal16 (And.intro @cal17 (And.intro @cal18 (And.intro @cal19 (And.intro @cal20 (And.intro @cal21 (And.intro @cal22 (And.intro @cal23 (And.intro @cal24 (And.intro @cal25 (And.intro @cal26 (And.intro @cal27 (And.intro @cal28 (And.intro @cal29 (And.intro @cal30 (And.intro @cal31 (And.intro @cal32 (And.intro @cal33 (And.intro @cal34 (And.intro @cal35 (And.intro @cal36 (And.intro @cal37 (And.intro @cal38 (And.intro @cal39 (And.intro @cal40 (And.intro @cal41 (And.intro @cal42 (And.intro @cal43 (And.intro @cal44 (And.intro @cal45 (And.intro @cal46 (And.intro @cal47 (And.intro @cal48 (And.intro @cal49 (And.intro @cal50 (And.intro @cal51 (And.intro @cal52 (And.intro @cal53 (And.intro @cal54 (And.intro @cal55 (And.intro @cal56 (And.intro @cal57 (And.intro @cal58 (And.intro @cal59 (And.intro @cal60 (And.intro @cal61 (And.intro @cal62 (And.intro @cal63 (And.intro @cal64 (And.intro @cal65 (And.intro @cal66 (And.intro @cal67 (And.intro @cal68 (And.intro @cal69 (And.intro @cal70 (And.intro @cal71 (And.intro @cal72 (And.intro @cal73 (And.intro @cal74 (And.intro @cal75 (And.intro @cal76 (And.intro @cal77 (And.intro @cal80 (And.intro @cal82 (And.intro @cal83 (And.intro @cal84 (And.intro @cal85 (And.intro @cal86 (And.intro @cal87 (And.intro @cal88 (And.intro @cal90 (And.intro @cal91 (And.intro @cal92 (And.intro @cal115 (And.intro @cal0 (And.intro @cal1 (And.intro @cal78 (And.intro @cal79 (And.intro @cal81 (And.intro @cal89 (And.intro @cal93 (And.intro @cal94 (And.intro @cal95 (And.intro @cal96 (And.intro @cal97 (And.intro @cal98 (And.intro @cal99 (And.intro @cal100 (And.intro @cal101 (And.intro @cal102 (And.intro @cal103 (And.intro @cal104 (And.intro @cal105 (And.intro @cal106 (And.intro @cal107 (And.intro @cal108 (And.intro @cal109 (@cal110)))))))))))))))))))))))))))))))))))))))))))))))))))))))))))))))))))))))))))))))))))))))))))))))))))
theorem tyS4 : type_of% (And.intro @cal111 (And.intro @cal112 (And.intro @cal113 (And.intro @cal114 (And.intro @Tryd.underlying2 (And.intro @Tryd.underlying3 (And.intro @Tryd.underlying4 (And.intro @Tryd.underlying5 (And.intro @Tryd.underlying6 (And.intro @Tryd.underlying7 (And.intro @Tryd.underlying8 (And.intro @Tryd.underlying9 (And.intro @Tryd.underlying10 (And.intro @Tryd.underlying11 (And.intro @Tryd.underlying12 (And.intro @Tryd.underlying13 (And.intro @Tryd.underlying14 (And.intro @Tryd.underlying15 (And.intro @Tryd.underlying16 (And.intro @Tryd.underlying17 (And.intro @Tryd.underlying18 (And.intro @Tryd.underlying19 (And.intro @Tryd.underlying21 (And.intro @Tryd.underlying22 (And.intro @Tryd.underlying23 (And.intro @Tryd.underlying24 (And.intro @Tryd.underlying26 (And.intro @Tryd.underlying27 (And.intro @Tryd.underlying36 (And.intro @Tryd.underlying37 (And.intro @Tryd.underlying38 (And.intro @Tryd.underlying42 (And.intro @Tryd.underlying44 (And.intro @Tryd.underlying47 (And.intro @Tryd.underlying48 (And.intro @Tryd.underlying49 (And.intro @Tryd.underlying50 (And.intro @Tryd.underlying51 (And.intro @Tryd.underlying52 (And.intro @Tryd.underlying53 (And.intro @Tryd.underlying61 (And.intro @Tryd.underlying62 (And.intro @Tryd.underlying63 (And.intro @Tryd.underlying68 (And.intro @Tryd.underlying76 (And.intro @Tryd.underlying80 (And.intro @Tryd.underlying83 (And.intro @Tryd.underlying84 (And.intro @Tryd.underlying85 (And.intro @Tryd.underlying95 (And.intro @Tryd.underlying98 (And.intro @Tryd.underlying101 (And.intro @Tryd.underlying102 (And.intro @Tryd.underlying107 (And.intro @Tryd.underlying113 (And.intro @Tryd.underlying114 (And.intro @Tryd.underlying118 (And.intro @Tryd.underlying119 (And.intro @Tryd.underlying120 (And.intro @Tryd.underlying121 (And.intro @Tryd.underlying122 (And.intro @Tryd.underlying123 (And.intro @Tryd.underlying124 (And.intro @Tryd.underlying125 (And.intro @Tryd.underlying126 (And.intro @Tryd.underlying128 (And.intro @Tryd.underlying129 (And.intro @Tryd.underlying130 (And.intro @Tryd.underlying131 (And.intro @Tryd.results2 (And.intro @Tryd.results3 (And.intro @Tryd.results4 (And.intro @Tryd.results5 (And.intro @Tryd.results6 (And.intro @Tryd.results7 (And.intro @Tryd.results8 (And.intro @Tryd.results9 (And.intro @Tryd.results10 (And.intro @Tryd.results11 (And.intro @Tryd.results12 (And.intro @Tryd.results13 (And.intro @Tryd.results14 (And.intro @Tryd.results15 (And.intro @Tryd.results16 (And.intro @Tryd.results17 (And.intro @Tryd.results18 (And.intro @Tryd.results19 (And.intro @Tryd.results20 (And.intro @Tryd.results21 (And.intro @Tryd.results22 (And.intro @Tryd.results23 (And.intro @Tryd.results24 (And.intro @Tryd.results25 (And.intro @Tryd.results26 (And.intro @Tryd.results27 (And.intro @Tryd.results28 (And.intro @Tryd.results29 (And.intro @Tryd.results30 (And.intro @Tryd.results31 (@Tryd.results32)))))))))))))))))))))))))))))))))))))))))))))))))))))))))))))))))))))))))))))))))))))))))))))))))))) := And.intro @cal111 (And.intro @cal112 (And.intro @cal113 (And.intro @cal114 (And.intro @Tryd.underlying2 (And.intro @Tryd.underlying3 (And.intro @Tryd.underlying4 (And.intro @Tryd.underlying5 (And.intro @Tryd.underlying6 (And.intro @Tryd.underlying7 (And.intro @Tryd.underlying8 (And.intro @Tryd.underlying9 (And.intro @Tryd.underlying10 (And.intro @Tryd.underlying11 (And.intro @Tryd.underlying12 (And.intro @Tryd.underlying13 (And.intro @Tryd.underlying14 (And.intro @Tryd.underlying15 (And.intro @Tryd.underlying16 (And.intro @Tryd.underlying17 (And.intro @Tryd.underlying18 (And.intro @Tryd.underlying19 (And.intro @Tryd.underlying21 (And.intro @Tryd.underlying22 (And.intro @Tryd.underlying23 (And.intro @Tryd.underlying24 (And.intro @Tryd.underlying26 (And.intro @Tryd.underlying27 (And.intro @Tryd.underlying36 (And.intro @Tryd.underlying37 (And.intro @Tryd.underlying38 (And.intro @Tryd.underlying42 (And.intro @Tryd.underlying44 (And.intro @Tryd.underlying47 (And.intro @Tryd.underlying48 (And.intro @Tryd.underlying49 (And.intro @Tryd.underlying50 (And.intro @Tryd.underlying51 (And.intro @Tryd.underlying52 (And.intro @Tryd.underlying53 (And.intro @Tryd.underlying61 (And.intro @Tryd.underlying62 (And.intro @Tryd.underlying63 (And.intro @Tryd.underlying68 (And.intro @Tryd.underlying76 (And.intro @Tryd.underlying80 (And.intro @Tryd.underlying83 (And.intro @Tryd.underlying84 (And.intro @Tryd.underlying85 (And.intro @Tryd.underlying95 (And.intro @Tryd.underlying98 (And.intro @Tryd.underlying101 (And.intro @Tryd.underlying102 (And.intro @Tryd.underlying107 (And.intro @Tryd.underlying113 (And.intro @Tryd.underlying114 (And.intro @Tryd.underlying118 (And.intro @Tryd.underlying119 (And.intro @Tryd.underlying120 (And.intro @Tryd.underlying121 (And.intro @Tryd.underlying122 (And.intro @Tryd.underlying123 (And.intro @Tryd.underlying124 (And.intro @Tryd.underlying125 (And.intro @Tryd.underlying126 (And.intro @Tryd.underlying128 (And.intro @Tryd.underlying129 (And.intro @Tryd.underlying130 (And.intro @Tryd.underlying131 (And.intro @Tryd.results2 (And.intro @Tryd.results3 (And.intro @Tryd.results4 (And.intro @Tryd.results5 (And.intro @Tryd.results6 (And.intro @Tryd.results7 (And.intro @Tryd.results8 (And.intro @Tryd.results9 (And.intro @Tryd.results10 (And.intro @Tryd.results11 (And.intro @Tryd.results12 (And.intro @Tryd.results13 (And.intro @Tryd.results14 (And.intro @Tryd.results15 (And.intro @Tryd.results16 (And.intro @Tryd.results17 (And.intro @Tryd.results18 (And.intro @Tryd.results19 (And.intro @Tryd.results20 (And.intro @Tryd.results21 (And.intro @Tryd.results22 (And.intro @Tryd.results23 (And.intro @Tryd.results24 (And.intro @Tryd.results25 (And.intro @Tryd.results26 (And.intro @Tryd.results27 (And.intro @Tryd.results28 (And.intro @Tryd.results29 (And.intro @Tryd.results30 (And.intro @Tryd.results31 (@Tryd.results32)))))))))))))))))))))))))))))))))))))))))))))))))))))))))))))))))))))))))))))))))))))))))))))))))))
theorem tyS5 : type_of% (And.intro @Tryd.results33 (And.intro @Tryd.results34 (And.intro @Tryd.results35 (And.intro @Tryd.results36 (And.intro @Tryd.results37 (And.intro @Tryd.results38 (And.intro @Tryd.results39 (And.intro @Tryd.results40 (And.intro @Tryd.results41 (And.intro @Tryd.results42 (And.intro @Tryd.results43 (And.intro @Tryd.results44 (And.intro @Tryd.results45 (And.intro @Tryd.results46 (And.intro @Tryd.results47 (And.intro @Tryd.results48 (And.intro @Tryd.results49 (And.intro @Tryd.results50 (And.intro @Tryd.results51 (And.intro @Tryd.results52 (And.intro @Tryd.results53 (And.intro @Tryd.results54 (And.intro @Tryd.results55 (And.intro @Tryd.results56 (And.intro @Tryd.results57 (And.intro @Tryd.results58 (And.intro @Tryd.results59 (And.intro @Tryd.results60 (And.intro @Tryd.results61 (And.intro @Tryd.results62 (And.intro @Tryd.results63 (And.intro @Tryd.results64 (And.intro @Tryd.results65 (And.intro @Tryd.results66 (And.intro @Tryd.results67 (And.intro @Tryd.results68 (And.intro @Tryd.results69 (And.intro @Tryd.results70 (And.intro @Tryd.results71 (And.intro @Tryd.results72 (And.intro @Tryd.results73 (And.intro @Tryd.results74 (And.intro @Tryd.results75 (And.intro @Tryd.results76 (And.intro @Tryd.results77 (And.intro @Tryd.results80 (And.intro @Tryd.results82 (And.intro @Tryd.results83 (And.intro @Tryd.results84 (And.intro @Tryd.results85 (And.intro @Tryd.results86 (And.intro @Tryd.results87 (And.intro @Tryd.results88 (And.intro @Tryd.results90 (And.intro @Tryd.results91 (And.intro @Tryd.results92 (@Tryd.results115))))))))))))))))))))))))))))))))))))))))))))))))))))))))) := And.intro @Tryd.results33 (And.intro @Tryd.results34 (And.intro @Tryd.results35 (And.intro @Tryd.results36 (And.intro @Tryd.results37 (And.intro @Tryd.results38 (And.intro @Tryd.results39 (And.intro @Tryd.results40 (And.intro @Tryd.results41 (And.intro @Tryd.results42 (And.intro @Tryd.results43 (And.intro @Tryd.results44 (And.intro @Tryd.results45 (And.intro @Tryd.results46 (And.intro @Tryd.results47 (And.intro @Tryd.results48 (And.intro @Tryd.results49 (And.intro @Tryd.results50 (And.intro @Tryd.results51 (And.intro @Tryd.results52 (And.intro @Tryd.results53 (And.intro @Tryd.results54 (And.intro @Tryd.results55 (And.intro @Tryd.results56 (And.intro @Tryd.results57 (And.intro @Tryd.results58 (And.intro @Tryd.results59 (And.intro @Tryd.results60 (And.intro @Tryd.results61 (And.intro @Tryd.results62 (And.intro @Tryd.results63 (And.intro @Tryd.results64 (And.intro @Tryd.results65 (And.intro @Tryd.results66 (And.intro @Tryd.results67 (And.intro @Tryd.results68 (And.intro @Tryd.results69 (And.intro @Tryd.results70 (And.intro @Tryd.results71 (And.intro @Tryd.results72 (And.intro @Tryd.results73 (And.intro @Tryd.results74 (And.intro @Tryd.results75 (And.intro @Tryd.results76 (And.intro @Tryd.results77 (And.intro @Tryd.results80 (And.intro @Tryd.results82 (And.intro @Tryd.results83 (And.intro @Tryd.results84 (And.intro @Tryd.results85 (And.intro @Tryd.results86 (And.intro @Tryd.results87 (And.intro @Tryd.results88 (And.intro @Tryd.results90 (And.intro @Tryd.results91 (And.intro @Tryd.results92 (@Tryd.results115))))))))))))))))))))))))))))))))))))))))))))))))))))))))
theorem tyS : type_of% (And.intro @tyS0 (And.intro @tyS1 (And.intro @tyS2 (And.intro @tyS3 (And.intro @tyS4 (@tyS5)))))) := And.intro @tyS0 (And.intro @tyS1 (And.intro @tyS2 (And.intro @tyS3 (And.intro @tyS4 (@tyS5)))))
end Go.Proofs.YtoonmogjjddeeaaDoor
