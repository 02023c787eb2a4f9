/-
Closed facts on the types and functions of this translation.
Conditions: none.
-/
import Derived.Test.YtamiclgnehfhpaaDoorProg
import Derived.Test.YtamiclgnehfhpaaDoorVmEq
import Derived.KernelRfl
namespace Go.Proofs.YtamiclgnehfhpaaDoor
open Go.Vm
set_option maxRecDepth 100000
theorem shp2 : shp Tryd.prog 2 = some (false, 1) := by kernel_rfl
theorem zro2 : zro Tryd.prog 2 = some (.int .i64 0) := by kernel_rfl
theorem shp3 : shp Tryd.prog 3 = some (false, 1) := by kernel_rfl
theorem zro3 : zro Tryd.prog 3 = some (.int .i64 0) := by kernel_rfl
theorem shp4 : shp Tryd.prog 4 = some (false, 1) := by kernel_rfl
theorem zro4 : zro Tryd.prog 4 = some (.bool false) := by kernel_rfl
theorem shp5 : shp Tryd.prog 5 = some (false, 1) := by kernel_rfl
theorem zro5 : zro Tryd.prog 5 = some (.int .u8 0) := by kernel_rfl
theorem shp6 : shp Tryd.prog 6 = some (false, 1) := by kernel_rfl
theorem zro6 : zro Tryd.prog 6 = some (.int .u8 0) := by kernel_rfl
theorem shp7 : shp Tryd.prog 7 = some (true, 4) := by kernel_rfl
theorem fld7n0 : fld Tryd.prog 7 0 = some (0, false, 1) := by kernel_rfl
theorem fld7n1 : fld Tryd.prog 7 1 = some (1, false, 1) := by kernel_rfl
theorem fld7n2 : fld Tryd.prog 7 2 = some (2, false, 1) := by kernel_rfl
theorem fld7n3 : fld Tryd.prog 7 3 = some (3, false, 1) := by kernel_rfl
theorem bok7 : bldOk Tryd.prog 7 = true := by kernel_rfl
theorem zro7 : zro Tryd.prog 7 = some (.agg #[.int .i64 0, .int .i64 0, .bool false, .int .u8 0]) := by kernel_rfl
theorem shp8 : shp Tryd.prog 8 = some (true, 4) := by kernel_rfl
theorem fld8n0 : fld Tryd.prog 8 0 = some (0, false, 1) := by kernel_rfl
theorem fld8n1 : fld Tryd.prog 8 1 = some (1, false, 1) := by kernel_rfl
theorem fld8n2 : fld Tryd.prog 8 2 = some (2, false, 1) := by kernel_rfl
theorem fld8n3 : fld Tryd.prog 8 3 = some (3, false, 1) := by kernel_rfl
theorem bok8 : bldOk Tryd.prog 8 = true := by kernel_rfl
theorem zro8 : zro Tryd.prog 8 = some (.agg #[.int .i64 0, .int .i64 0, .bool false, .int .u8 0]) := by kernel_rfl
theorem shp9 : shp Tryd.prog 9 = some (false, 1) := by kernel_rfl
theorem zro9 : zro Tryd.prog 9 = some (.string ⟨#[]⟩) := by kernel_rfl
theorem shp10 : shp Tryd.prog 10 = some (false, 1) := by kernel_rfl
theorem zro10 : zro Tryd.prog 10 = some (.string ⟨#[]⟩) := by kernel_rfl
theorem shp11 : shp Tryd.prog 11 = some (false, 1) := by kernel_rfl
theorem zro11 : zro Tryd.prog 11 = some (.string ⟨#[]⟩) := by kernel_rfl
theorem shp12 : shp Tryd.prog 12 = some (false, 1) := by kernel_rfl
theorem zro12 : zro Tryd.prog 12 = some (.int .u64 0) := by kernel_rfl
theorem shp13 : shp Tryd.prog 13 = some (true, 2) := by kernel_rfl
theorem fld13n0 : fld Tryd.prog 13 0 = some (0, false, 1) := by kernel_rfl
theorem fld13n1 : fld Tryd.prog 13 1 = some (1, false, 1) := by kernel_rfl
theorem bok13 : bldOk Tryd.prog 13 = true := by kernel_rfl
theorem zro13 : zro Tryd.prog 13 = some (.agg #[.string ⟨#[]⟩, .int .u64 0]) := by kernel_rfl
theorem shp14 : shp Tryd.prog 14 = some (true, 2) := by kernel_rfl
theorem fld14n0 : fld Tryd.prog 14 0 = some (0, false, 1) := by kernel_rfl
theorem fld14n1 : fld Tryd.prog 14 1 = some (1, false, 1) := by kernel_rfl
theorem bok14 : bldOk Tryd.prog 14 = true := by kernel_rfl
theorem zro14 : zro Tryd.prog 14 = some (.agg #[.string ⟨#[]⟩, .int .u64 0]) := by kernel_rfl
theorem shp15 : shp Tryd.prog 15 = some (false, 1) := by kernel_rfl
theorem zro15 : zro Tryd.prog 15 = some (.pointer none) := by kernel_rfl
theorem shp16 : shp Tryd.prog 16 = some (false, 1) := by kernel_rfl
theorem zro16 : zro Tryd.prog 16 = some (.pointer none) := by kernel_rfl
theorem shp17 : shp Tryd.prog 17 = some (false, 1) := by kernel_rfl
theorem zro17 : zro Tryd.prog 17 = some (.pointer none) := by kernel_rfl
theorem shp18 : shp Tryd.prog 18 = some (true, 1) := by kernel_rfl
theorem fld18n0 : fld Tryd.prog 18 0 = some (0, false, 1) := by kernel_rfl
theorem bok18 : bldOk Tryd.prog 18 = true := by kernel_rfl
theorem zro18 : zro Tryd.prog 18 = some (.agg #[.pointer none]) := by kernel_rfl
theorem shp19 : shp Tryd.prog 19 = some (true, 1) := by kernel_rfl
theorem fld19n0 : fld Tryd.prog 19 0 = some (0, false, 1) := by kernel_rfl
theorem bok19 : bldOk Tryd.prog 19 = true := by kernel_rfl
theorem zro19 : zro Tryd.prog 19 = some (.agg #[.pointer none]) := by kernel_rfl
theorem shp20 : shp Tryd.prog 20 = some (false, 1) := by kernel_rfl
theorem zro20 : zro Tryd.prog 20 = some (.nilIface) := by kernel_rfl
theorem shp21 : shp Tryd.prog 21 = some (false, 1) := by kernel_rfl
theorem zro21 : zro Tryd.prog 21 = some (.int .i32 0) := by kernel_rfl
theorem shp22 : shp Tryd.prog 22 = some (false, 1) := by kernel_rfl
theorem zro22 : zro Tryd.prog 22 = some (.slice none 0 0) := by kernel_rfl
theorem slc22 : slc Tryd.prog 22 = some (27, 7, 96) := by kernel_rfl
theorem shp25 : shp Tryd.prog 25 = some (false, 1) := by kernel_rfl
theorem zro25 : zro Tryd.prog 25 = some (.slice none 0 0) := by kernel_rfl
theorem slc25 : slc Tryd.prog 25 = some (9, 1, 16) := by kernel_rfl
theorem shp26 : shp Tryd.prog 26 = some (true, 7) := by kernel_rfl
theorem fld26n0 : fld Tryd.prog 26 0 = some (0, false, 1) := by kernel_rfl
theorem fld26n1 : fld Tryd.prog 26 1 = some (1, false, 1) := by kernel_rfl
theorem fld26n2 : fld Tryd.prog 26 2 = some (2, false, 1) := by kernel_rfl
theorem fld26n3 : fld Tryd.prog 26 3 = some (3, false, 1) := by kernel_rfl
theorem fld26n4 : fld Tryd.prog 26 4 = some (4, false, 1) := by kernel_rfl
theorem fld26n5 : fld Tryd.prog 26 5 = some (5, false, 1) := by kernel_rfl
theorem fld26n6 : fld Tryd.prog 26 6 = some (6, false, 1) := by kernel_rfl
theorem bok26 : bldOk Tryd.prog 26 = true := by kernel_rfl
theorem sih26 : Tryd.prog.stoodInHeld 26 = false := by kernel_rfl
theorem egt26 : Tryd.prog.eqGuardType Tryd.prog.depth 26 = false := by kernel_rfl
theorem zro26 : zro Tryd.prog 26 = some (.agg #[.string ⟨#[]⟩, .int .i64 0, .int .i64 0, .int .i64 0, .int .i64 0, .slice none 0 0, .slice none 0 0]) := by kernel_rfl
theorem shp27 : shp Tryd.prog 27 = some (true, 7) := by kernel_rfl
theorem fld27n0 : fld Tryd.prog 27 0 = some (0, false, 1) := by kernel_rfl
theorem fld27n1 : fld Tryd.prog 27 1 = some (1, false, 1) := by kernel_rfl
theorem fld27n2 : fld Tryd.prog 27 2 = some (2, false, 1) := by kernel_rfl
theorem fld27n3 : fld Tryd.prog 27 3 = some (3, false, 1) := by kernel_rfl
theorem fld27n4 : fld Tryd.prog 27 4 = some (4, false, 1) := by kernel_rfl
theorem fld27n5 : fld Tryd.prog 27 5 = some (5, false, 1) := by kernel_rfl
theorem fld27n6 : fld Tryd.prog 27 6 = some (6, false, 1) := by kernel_rfl
theorem bok27 : bldOk Tryd.prog 27 = true := by kernel_rfl
theorem sih27 : Tryd.prog.stoodInHeld 27 = false := by kernel_rfl
theorem egt27 : Tryd.prog.eqGuardType Tryd.prog.depth 27 = false := by kernel_rfl
theorem zro27 : zro Tryd.prog 27 = some (.agg #[.string ⟨#[]⟩, .int .i64 0, .int .i64 0, .int .i64 0, .int .i64 0, .slice none 0 0, .slice none 0 0]) := by kernel_rfl
theorem shp30 : shp Tryd.prog 30 = some (false, 1) := by kernel_rfl
theorem zro30 : zro Tryd.prog 30 = some (.int .i64 0) := by kernel_rfl
theorem shp45 : shp Tryd.prog 45 = some (false, 1) := by kernel_rfl
theorem zro45 : zro Tryd.prog 45 = some (.int .u16 0) := by kernel_rfl
theorem shp46 : shp Tryd.prog 46 = some (true, 4) := by kernel_rfl
theorem bok46 : bldOk Tryd.prog 46 = false := by kernel_rfl
theorem zro46 : zro Tryd.prog 46 = some (.agg #[.int .u16 0, .int .u16 0, .int .u16 0, .int .u16 0]) := by kernel_rfl
theorem shp47 : shp Tryd.prog 47 = some (true, 4) := by kernel_rfl
theorem bok47 : bldOk Tryd.prog 47 = false := by kernel_rfl
theorem zro47 : zro Tryd.prog 47 = some (.agg #[.int .i64 0, .int .i64 0, .int .i64 0, .int .i64 0]) := by kernel_rfl
theorem shp51 : shp Tryd.prog 51 = some (false, 1) := by kernel_rfl
theorem zro51 : zro Tryd.prog 51 = some (.slice none 0 0) := by kernel_rfl
theorem slc51 : slc Tryd.prog 51 = some (3, 1, 8) := by kernel_rfl
theorem shp54 : shp Tryd.prog 54 = some (false, 1) := by kernel_rfl
theorem zro54 : zro Tryd.prog 54 = some (.pointer none) := by kernel_rfl
theorem shp55 : shp Tryd.prog 55 = some (false, 1) := by kernel_rfl
theorem zro55 : zro Tryd.prog 55 = some (.slice none 0 0) := by kernel_rfl
theorem slc55 : slc Tryd.prog 55 = some (5, 1, 1) := by kernel_rfl
theorem shp56 : shp Tryd.prog 56 = some (true, 2) := by kernel_rfl
theorem fld56n0 : fld Tryd.prog 56 0 = some (0, false, 1) := by kernel_rfl
theorem fld56n1 : fld Tryd.prog 56 1 = some (1, false, 1) := by kernel_rfl
theorem bok56 : bldOk Tryd.prog 56 = true := by kernel_rfl
theorem zro56 : zro Tryd.prog 56 = some (.agg #[.pointer none, .slice none 0 0]) := by kernel_rfl
theorem shp57 : shp Tryd.prog 57 = some (true, 2) := by kernel_rfl
theorem fld57n0 : fld Tryd.prog 57 0 = some (0, false, 1) := by kernel_rfl
theorem fld57n1 : fld Tryd.prog 57 1 = some (1, false, 1) := by kernel_rfl
theorem bok57 : bldOk Tryd.prog 57 = true := by kernel_rfl
theorem zro57 : zro Tryd.prog 57 = some (.agg #[.pointer none, .slice none 0 0]) := by kernel_rfl
theorem shp59 : shp Tryd.prog 59 = some (false, 1) := by kernel_rfl
theorem zro59 : zro Tryd.prog 59 = some (.nilIface) := by kernel_rfl
theorem shp60 : shp Tryd.prog 60 = some (false, 1) := by kernel_rfl
theorem zro60 : zro Tryd.prog 60 = some (.nilIface) := by kernel_rfl
theorem shp66 : shp Tryd.prog 66 = some (false, 1) := by kernel_rfl
theorem zro66 : zro Tryd.prog 66 = some (.pointer none) := by kernel_rfl
theorem shp69 : shp Tryd.prog 69 = some (true, 4) := by kernel_rfl
theorem fld69n0 : fld Tryd.prog 69 0 = some (0, false, 1) := by kernel_rfl
theorem fld69n1 : fld Tryd.prog 69 1 = some (1, false, 1) := by kernel_rfl
theorem fld69n2 : fld Tryd.prog 69 2 = some (2, false, 1) := by kernel_rfl
theorem fld69n3 : fld Tryd.prog 69 3 = some (3, false, 1) := by kernel_rfl
theorem bok69 : bldOk Tryd.prog 69 = true := by kernel_rfl
theorem sih69 : Tryd.prog.stoodInHeld 69 = false := by kernel_rfl
theorem egt69 : Tryd.prog.eqGuardType Tryd.prog.depth 69 = false := by kernel_rfl
theorem zro69 : zro Tryd.prog 69 = some (.agg #[.int .i64 0, .string ⟨#[]⟩, .int .i64 0, .int .i64 0]) := by kernel_rfl
theorem shp70 : shp Tryd.prog 70 = some (true, 4) := by kernel_rfl
theorem fld70n0 : fld Tryd.prog 70 0 = some (0, false, 1) := by kernel_rfl
theorem fld70n1 : fld Tryd.prog 70 1 = some (1, false, 1) := by kernel_rfl
theorem fld70n2 : fld Tryd.prog 70 2 = some (2, false, 1) := by kernel_rfl
theorem fld70n3 : fld Tryd.prog 70 3 = some (3, false, 1) := by kernel_rfl
theorem bok70 : bldOk Tryd.prog 70 = true := by kernel_rfl
theorem sih70 : Tryd.prog.stoodInHeld 70 = false := by kernel_rfl
theorem egt70 : Tryd.prog.eqGuardType Tryd.prog.depth 70 = false := by kernel_rfl
theorem zro70 : zro Tryd.prog 70 = some (.agg #[.int .i64 0, .string ⟨#[]⟩, .int .i64 0, .int .i64 0]) := by kernel_rfl
theorem shp74 : shp Tryd.prog 74 = some (false, 1) := by kernel_rfl
theorem zro74 : zro Tryd.prog 74 = some (.slice none 0 0) := by kernel_rfl
theorem slc74 : slc Tryd.prog 74 = some (70, 4, 40) := by kernel_rfl
theorem shp86 : shp Tryd.prog 86 = some (false, 1) := by kernel_rfl
theorem zro86 : zro Tryd.prog 86 = some (.pointer none) := by kernel_rfl
theorem shp87 : shp Tryd.prog 87 = some (true, 2) := by kernel_rfl
theorem fld87n0 : fld Tryd.prog 87 0 = some (0, false, 1) := by kernel_rfl
theorem fld87n1 : fld Tryd.prog 87 1 = some (1, false, 1) := by kernel_rfl
theorem bok87 : bldOk Tryd.prog 87 = true := by kernel_rfl
theorem sih87 : Tryd.prog.stoodInHeld 87 = false := by kernel_rfl
theorem egt87 : Tryd.prog.eqGuardType Tryd.prog.depth 87 = false := by kernel_rfl
theorem zro87 : zro Tryd.prog 87 = some (.agg #[.slice none 0 0, .int .i64 0]) := by kernel_rfl
theorem shp88 : shp Tryd.prog 88 = some (true, 2) := by kernel_rfl
theorem fld88n0 : fld Tryd.prog 88 0 = some (0, false, 1) := by kernel_rfl
theorem fld88n1 : fld Tryd.prog 88 1 = some (1, false, 1) := by kernel_rfl
theorem bok88 : bldOk Tryd.prog 88 = true := by kernel_rfl
theorem sih88 : Tryd.prog.stoodInHeld 88 = false := by kernel_rfl
theorem egt88 : Tryd.prog.eqGuardType Tryd.prog.depth 88 = false := by kernel_rfl
theorem zro88 : zro Tryd.prog 88 = some (.agg #[.slice none 0 0, .int .i64 0]) := by kernel_rfl
theorem shp89 : shp Tryd.prog 89 = some (false, 1) := by kernel_rfl
theorem zro89 : zro Tryd.prog 89 = some (.pointer none) := by kernel_rfl
theorem shp90 : shp Tryd.prog 90 = some (false, 1) := by kernel_rfl
theorem zro90 : zro Tryd.prog 90 = some (.slice none 0 0) := by kernel_rfl
theorem slc90 : slc Tryd.prog 90 = some (89, 1, 8) := by kernel_rfl
theorem shp99 : shp Tryd.prog 99 = some (false, 1) := by kernel_rfl
theorem zro99 : zro Tryd.prog 99 = some (.pointer none) := by kernel_rfl
theorem shp108 : shp Tryd.prog 108 = some (true, 24) := by kernel_rfl
theorem bok108 : bldOk Tryd.prog 108 = false := by kernel_rfl
theorem zro108 : zro Tryd.prog 108 = some (.agg #[.int .u8 0, .int .u8 0, .int .u8 0, .int .u8 0, .int .u8 0, .int .u8 0, .int .u8 0, .int .u8 0, .int .u8 0, .int .u8 0, .int .u8 0, .int .u8 0, .int .u8 0, .int .u8 0, .int .u8 0, .int .u8 0, .int .u8 0, .int .u8 0, .int .u8 0, .int .u8 0, .int .u8 0, .int .u8 0, .int .u8 0, .int .u8 0]) := by kernel_rfl
theorem shp109 : shp Tryd.prog 109 = some (false, 1) := by kernel_rfl
theorem zro109 : zro Tryd.prog 109 = some (.int .u64 0) := by kernel_rfl
theorem shp119 : shp Tryd.prog 119 = some (false, 1) := by kernel_rfl
theorem zro119 : zro Tryd.prog 119 = some (.int .u64 0) := by kernel_rfl
theorem shp122 : shp Tryd.prog 122 = some (true, 20) := by kernel_rfl
theorem bok122 : bldOk Tryd.prog 122 = false := by kernel_rfl
theorem zro122 : zro Tryd.prog 122 = some (.agg #[.int .u64 0, .int .u64 0, .int .u64 0, .int .u64 0, .int .u64 0, .int .u64 0, .int .u64 0, .int .u64 0, .int .u64 0, .int .u64 0, .int .u64 0, .int .u64 0, .int .u64 0, .int .u64 0, .int .u64 0, .int .u64 0, .int .u64 0, .int .u64 0, .int .u64 0, .int .u64 0]) := by kernel_rfl
theorem shp123 : shp Tryd.prog 123 = some (false, 1) := by kernel_rfl
theorem zro123 : zro Tryd.prog 123 = some (.int .u32 0) := by kernel_rfl
theorem shp124 : shp Tryd.prog 124 = some (true, 65) := by kernel_rfl
theorem bok124 : bldOk Tryd.prog 124 = false := by kernel_rfl
theorem zro124 : zro Tryd.prog 124 = some (.agg #[.int .u8 0, .int .u8 0, .int .u8 0, .int .u8 0, .int .u8 0, .int .u8 0, .int .u8 0, .int .u8 0, .int .u8 0, .int .u8 0, .int .u8 0, .int .u8 0, .int .u8 0, .int .u8 0, .int .u8 0, .int .u8 0, .int .u8 0, .int .u8 0, .int .u8 0, .int .u8 0, .int .u8 0, .int .u8 0, .int .u8 0, .int .u8 0, .int .u8 0, .int .u8 0, .int .u8 0, .int .u8 0, .int .u8 0, .int .u8 0, .int .u8 0, .int .u8 0, .int .u8 0, .int .u8 0, .int .u8 0, .int .u8 0, .int .u8 0, .int .u8 0, .int .u8 0, .int .u8 0, .int .u8 0, .int .u8 0, .int .u8 0, .int .u8 0, .int .u8 0, .int .u8 0, .int .u8 0, .int .u8 0, .int .u8 0, .int .u8 0, .int .u8 0, .int .u8 0, .int .u8 0, .int .u8 0, .int .u8 0, .int .u8 0, .int .u8 0, .int .u8 0, .int .u8 0, .int .u8 0, .int .u8 0, .int .u8 0, .int .u8 0, .int .u8 0, .int .u8 0]) := by kernel_rfl
theorem shp127 : shp Tryd.prog 127 = some (true, 32) := by kernel_rfl
theorem bok127 : bldOk Tryd.prog 127 = false := by kernel_rfl
theorem zro127 : zro Tryd.prog 127 = some (.agg #[.int .u8 0, .int .u8 0, .int .u8 0, .int .u8 0, .int .u8 0, .int .u8 0, .int .u8 0, .int .u8 0, .int .u8 0, .int .u8 0, .int .u8 0, .int .u8 0, .int .u8 0, .int .u8 0, .int .u8 0, .int .u8 0, .int .u8 0, .int .u8 0, .int .u8 0, .int .u8 0, .int .u8 0, .int .u8 0, .int .u8 0, .int .u8 0, .int .u8 0, .int .u8 0, .int .u8 0, .int .u8 0, .int .u8 0, .int .u8 0, .int .u8 0, .int .u8 0]) := by kernel_rfl
theorem shp128 : shp Tryd.prog 128 = some (true, 64) := by kernel_rfl
theorem bok128 : bldOk Tryd.prog 128 = false := by kernel_rfl
theorem zro128 : zro Tryd.prog 128 = some (.agg #[.int .u8 0, .int .u8 0, .int .u8 0, .int .u8 0, .int .u8 0, .int .u8 0, .int .u8 0, .int .u8 0, .int .u8 0, .int .u8 0, .int .u8 0, .int .u8 0, .int .u8 0, .int .u8 0, .int .u8 0, .int .u8 0, .int .u8 0, .int .u8 0, .int .u8 0, .int .u8 0, .int .u8 0, .int .u8 0, .int .u8 0, .int .u8 0, .int .u8 0, .int .u8 0, .int .u8 0, .int .u8 0, .int .u8 0, .int .u8 0, .int .u8 0, .int .u8 0, .int .u8 0, .int .u8 0, .int .u8 0, .int .u8 0, .int .u8 0, .int .u8 0, .int .u8 0, .int .u8 0, .int .u8 0, .int .u8 0, .int .u8 0, .int .u8 0, .int .u8 0, .int .u8 0, .int .u8 0, .int .u8 0, .int .u8 0, .int .u8 0, .int .u8 0, .int .u8 0, .int .u8 0, .int .u8 0, .int .u8 0, .int .u8 0, .int .u8 0, .int .u8 0, .int .u8 0, .int .u8 0, .int .u8 0, .int .u8 0, .int .u8 0, .int .u8 0]) := by kernel_rfl
theorem shp129 : shp Tryd.prog 129 = some (true, 4) := by kernel_rfl
theorem fld129n0 : fld Tryd.prog 129 0 = some (0, false, 1) := by kernel_rfl
theorem fld129n1 : fld Tryd.prog 129 1 = some (1, false, 1) := by kernel_rfl
theorem fld129n2 : fld Tryd.prog 129 2 = some (2, false, 1) := by kernel_rfl
theorem fld129n3 : fld Tryd.prog 129 3 = some (3, false, 1) := by kernel_rfl
theorem bok129 : bldOk Tryd.prog 129 = true := by kernel_rfl
theorem zro129 : zro Tryd.prog 129 = some (.agg #[.pointer none, .pointer none, .pointer none, .string ⟨#[]⟩]) := by kernel_rfl
theorem shp130 : shp Tryd.prog 130 = some (true, 4) := by kernel_rfl
theorem fld130n0 : fld Tryd.prog 130 0 = some (0, false, 1) := by kernel_rfl
theorem fld130n1 : fld Tryd.prog 130 1 = some (1, false, 1) := by kernel_rfl
theorem fld130n2 : fld Tryd.prog 130 2 = some (2, false, 1) := by kernel_rfl
theorem fld130n3 : fld Tryd.prog 130 3 = some (3, false, 1) := by kernel_rfl
theorem bok130 : bldOk Tryd.prog 130 = true := by kernel_rfl
theorem zro130 : zro Tryd.prog 130 = some (.agg #[.pointer none, .pointer none, .pointer none, .string ⟨#[]⟩]) := by kernel_rfl
theorem shp131 : shp Tryd.prog 131 = some (true, 0) := by kernel_rfl
theorem bok131 : bldOk Tryd.prog 131 = false := by kernel_rfl
theorem zro131 : zro Tryd.prog 131 = some (.agg #[]) := by kernel_rfl
theorem shp132 : shp Tryd.prog 132 = some (true, 0) := by kernel_rfl
theorem fld132n0 : fld Tryd.prog 132 0 = some (0, true, 0) := by kernel_rfl
theorem bok132 : bldOk Tryd.prog 132 = true := by kernel_rfl
theorem zro132 : zro Tryd.prog 132 = some (.agg #[]) := by kernel_rfl
theorem shp133 : shp Tryd.prog 133 = some (true, 0) := by kernel_rfl
theorem fld133n0 : fld Tryd.prog 133 0 = some (0, true, 0) := by kernel_rfl
theorem bok133 : bldOk Tryd.prog 133 = true := by kernel_rfl
theorem zro133 : zro Tryd.prog 133 = some (.agg #[]) := by kernel_rfl
theorem shp135 : shp Tryd.prog 135 = some (false, 1) := by kernel_rfl
theorem zro135 : zro Tryd.prog 135 = some (.int .u8 0) := by kernel_rfl
theorem shp136 : shp Tryd.prog 136 = some (false, 1) := by kernel_rfl
theorem zro136 : zro Tryd.prog 136 = some (.int .u8 0) := by kernel_rfl
theorem shp138 : shp Tryd.prog 138 = some (false, 1) := by kernel_rfl
theorem zro138 : zro Tryd.prog 138 = some (.int .i32 0) := by kernel_rfl
theorem shp139 : shp Tryd.prog 139 = some (false, 1) := by kernel_rfl
theorem zro139 : zro Tryd.prog 139 = some (.int .i32 0) := by kernel_rfl
theorem shp140 : shp Tryd.prog 140 = some (true, 11) := by kernel_rfl
theorem fld140n0 : fld Tryd.prog 140 0 = some (0, false, 1) := by kernel_rfl
theorem fld140n1 : fld Tryd.prog 140 1 = some (1, false, 1) := by kernel_rfl
theorem fld140n2 : fld Tryd.prog 140 2 = some (2, false, 1) := by kernel_rfl
theorem fld140n3 : fld Tryd.prog 140 3 = some (3, false, 1) := by kernel_rfl
theorem fld140n4 : fld Tryd.prog 140 4 = some (4, false, 1) := by kernel_rfl
theorem fld140n5 : fld Tryd.prog 140 5 = some (5, false, 1) := by kernel_rfl
theorem fld140n6 : fld Tryd.prog 140 6 = some (6, false, 1) := by kernel_rfl
theorem fld140n7 : fld Tryd.prog 140 7 = some (7, false, 1) := by kernel_rfl
theorem fld140n8 : fld Tryd.prog 140 8 = some (8, false, 1) := by kernel_rfl
theorem fld140n9 : fld Tryd.prog 140 9 = some (9, false, 1) := by kernel_rfl
theorem fld140n10 : fld Tryd.prog 140 10 = some (10, false, 1) := by kernel_rfl
theorem bok140 : bldOk Tryd.prog 140 = true := by kernel_rfl
theorem zro140 : zro Tryd.prog 140 = some (.agg #[.int .u64 0, .int .u64 0, .int .u32 0, .int .u8 0, .int .u8 0, .int .u8 0, .int .u8 0, .nilFunc, .pointer none, .int .i32 0, .int .i32 0]) := by kernel_rfl
theorem shp141 : shp Tryd.prog 141 = some (true, 11) := by kernel_rfl
theorem fld141n0 : fld Tryd.prog 141 0 = some (0, false, 1) := by kernel_rfl
theorem fld141n1 : fld Tryd.prog 141 1 = some (1, false, 1) := by kernel_rfl
theorem fld141n2 : fld Tryd.prog 141 2 = some (2, false, 1) := by kernel_rfl
theorem fld141n3 : fld Tryd.prog 141 3 = some (3, false, 1) := by kernel_rfl
theorem fld141n4 : fld Tryd.prog 141 4 = some (4, false, 1) := by kernel_rfl
theorem fld141n5 : fld Tryd.prog 141 5 = some (5, false, 1) := by kernel_rfl
theorem fld141n6 : fld Tryd.prog 141 6 = some (6, false, 1) := by kernel_rfl
theorem fld141n7 : fld Tryd.prog 141 7 = some (7, false, 1) := by kernel_rfl
theorem fld141n8 : fld Tryd.prog 141 8 = some (8, false, 1) := by kernel_rfl
theorem fld141n9 : fld Tryd.prog 141 9 = some (9, false, 1) := by kernel_rfl
theorem fld141n10 : fld Tryd.prog 141 10 = some (10, false, 1) := by kernel_rfl
theorem bok141 : bldOk Tryd.prog 141 = true := by kernel_rfl
theorem zro141 : zro Tryd.prog 141 = some (.agg #[.int .u64 0, .int .u64 0, .int .u32 0, .int .u8 0, .int .u8 0, .int .u8 0, .int .u8 0, .nilFunc, .pointer none, .int .i32 0, .int .i32 0]) := by kernel_rfl
theorem cal2 : callable Tryd.prog 2 = true := by kernel_rfl
theorem cal3 : callable Tryd.prog 3 = true := by kernel_rfl
theorem cal4 : callable Tryd.prog 4 = true := by kernel_rfl
theorem cal5 : callable Tryd.prog 5 = true := by kernel_rfl
theorem cal6 : callable Tryd.prog 6 = true := by kernel_rfl
theorem cal7 : callable Tryd.prog 7 = true := by kernel_rfl
theorem cal8 : callable Tryd.prog 8 = true := by kernel_rfl
theorem cal9 : callable Tryd.prog 9 = true := by kernel_rfl
theorem cal10 : callable Tryd.prog 10 = true := by kernel_rfl
theorem cal11 : callable Tryd.prog 11 = true := by kernel_rfl
theorem cal12 : callable Tryd.prog 12 = true := by kernel_rfl
theorem cal13 : callable Tryd.prog 13 = true := by kernel_rfl
theorem cal14 : callable Tryd.prog 14 = true := by kernel_rfl
theorem cal15 : callable Tryd.prog 15 = true := by kernel_rfl
theorem cal16 : callable Tryd.prog 16 = true := by kernel_rfl
theorem cal17 : callable Tryd.prog 17 = true := by kernel_rfl
theorem cal18 : callable Tryd.prog 18 = true := by kernel_rfl
theorem cal19 : callable Tryd.prog 19 = true := by kernel_rfl
theorem cal20 : callable Tryd.prog 20 = true := by kernel_rfl
theorem cal21 : callable Tryd.prog 21 = true := by kernel_rfl
theorem cal22 : callable Tryd.prog 22 = true := by kernel_rfl
theorem cal23 : callable Tryd.prog 23 = true := by kernel_rfl
theorem cal24 : callable Tryd.prog 24 = true := by kernel_rfl
theorem cal25 : callable Tryd.prog 25 = true := by kernel_rfl
theorem cal26 : callable Tryd.prog 26 = true := by kernel_rfl
theorem cal27 : callable Tryd.prog 27 = true := by kernel_rfl
theorem cal28 : callable Tryd.prog 28 = true := by kernel_rfl
theorem cal29 : callable Tryd.prog 29 = true := by kernel_rfl
theorem cal30 : callable Tryd.prog 30 = true := by kernel_rfl
theorem cal31 : callable Tryd.prog 31 = true := by kernel_rfl
theorem cal32 : callable Tryd.prog 32 = true := by kernel_rfl
theorem cal33 : callable Tryd.prog 33 = true := by kernel_rfl
theorem cal34 : callable Tryd.prog 34 = true := by kernel_rfl
theorem cal35 : callable Tryd.prog 35 = true := by kernel_rfl
theorem cal36 : callable Tryd.prog 36 = true := by kernel_rfl
theorem cal37 : callable Tryd.prog 37 = true := by kernel_rfl
theorem cal38 : callable Tryd.prog 38 = true := by kernel_rfl
theorem cal39 : callable Tryd.prog 39 = true := by kernel_rfl
theorem cal40 : callable Tryd.prog 40 = true := by kernel_rfl
theorem cal41 : callable Tryd.prog 41 = true := by kernel_rfl
theorem cal42 : callable Tryd.prog 42 = true := by kernel_rfl
theorem cal43 : callable Tryd.prog 43 = true := by kernel_rfl
theorem cal44 : callable Tryd.prog 44 = true := by kernel_rfl
theorem cal45 : callable Tryd.prog 45 = true := by kernel_rfl
theorem cal46 : callable Tryd.prog 46 = true := by kernel_rfl
theorem cal47 : callable Tryd.prog 47 = true := by kernel_rfl
theorem cal48 : callable Tryd.prog 48 = true := by kernel_rfl
theorem cal49 : callable Tryd.prog 49 = true := by kernel_rfl
theorem cal50 : callable Tryd.prog 50 = true := by kernel_rfl
theorem cal51 : callable Tryd.prog 51 = true := by kernel_rfl
theorem cal52 : callable Tryd.prog 52 = true := by kernel_rfl
theorem cal53 : callable Tryd.prog 53 = true := by kernel_rfl
theorem cal54 : callable Tryd.prog 54 = true := by kernel_rfl
theorem cal55 : callable Tryd.prog 55 = true := by kernel_rfl
theorem cal56 : callable Tryd.prog 56 = true := by kernel_rfl
theorem cal57 : callable Tryd.prog 57 = true := by kernel_rfl
theorem cal58 : callable Tryd.prog 58 = true := by kernel_rfl
theorem cal59 : callable Tryd.prog 59 = true := by kernel_rfl
theorem cal60 : callable Tryd.prog 60 = true := by kernel_rfl
theorem cal61 : callable Tryd.prog 61 = true := by kernel_rfl
theorem cal62 : callable Tryd.prog 62 = true := by kernel_rfl
theorem cal63 : callable Tryd.prog 63 = true := by kernel_rfl
theorem cal64 : callable Tryd.prog 64 = true := by kernel_rfl
theorem cal65 : callable Tryd.prog 65 = true := by kernel_rfl
theorem cal66 : callable Tryd.prog 66 = true := by kernel_rfl
theorem cal67 : callable Tryd.prog 67 = true := by kernel_rfl
theorem cal68 : callable Tryd.prog 68 = true := by kernel_rfl
theorem cal69 : callable Tryd.prog 69 = true := by kernel_rfl
theorem cal70 : callable Tryd.prog 70 = true := by kernel_rfl
theorem cal72 : callable Tryd.prog 72 = true := by kernel_rfl
theorem cal73 : callable Tryd.prog 73 = true := by kernel_rfl
theorem cal74 : callable Tryd.prog 74 = true := by kernel_rfl
theorem cal75 : callable Tryd.prog 75 = true := by kernel_rfl
theorem cal76 : callable Tryd.prog 76 = true := by kernel_rfl
theorem cal77 : callable Tryd.prog 77 = true := by kernel_rfl
theorem cal78 : callable Tryd.prog 78 = true := by kernel_rfl
theorem cal79 : callable Tryd.prog 79 = true := by kernel_rfl
theorem cal80 : callable Tryd.prog 80 = true := by kernel_rfl
theorem cal81 : callable Tryd.prog 81 = true := by kernel_rfl
theorem cal82 : callable Tryd.prog 82 = true := by kernel_rfl
theorem cal83 : callable Tryd.prog 83 = true := by kernel_rfl
theorem cal84 : callable Tryd.prog 84 = true := by kernel_rfl
theorem cal85 : callable Tryd.prog 85 = true := by kernel_rfl
theorem cal87 : callable Tryd.prog 87 = true := by kernel_rfl
theorem cal88 : callable Tryd.prog 88 = true := by kernel_rfl
theorem cal89 : callable Tryd.prog 89 = true := by kernel_rfl
theorem cal90 : callable Tryd.prog 90 = true := by kernel_rfl
theorem cal91 : callable Tryd.prog 91 = true := by kernel_rfl
theorem cal92 : callable Tryd.prog 92 = true := by kernel_rfl
theorem cal94 : callable Tryd.prog 94 = true := by kernel_rfl
theorem cal95 : callable Tryd.prog 95 = true := by kernel_rfl
theorem cal96 : callable Tryd.prog 96 = true := by kernel_rfl
theorem cal97 : callable Tryd.prog 97 = true := by kernel_rfl
theorem cal98 : callable Tryd.prog 98 = true := by kernel_rfl
theorem cal100 : callable Tryd.prog 100 = true := by kernel_rfl
theorem cal101 : callable Tryd.prog 101 = true := by kernel_rfl
theorem cal124 : callable Tryd.prog 124 = true := by kernel_rfl
theorem cal0 : callable Tryd.prog 0 = false := by kernel_rfl
theorem cal1 : callable Tryd.prog 1 = false := by kernel_rfl
theorem cal71 : callable Tryd.prog 71 = false := by kernel_rfl
theorem cal86 : callable Tryd.prog 86 = false := by kernel_rfl
theorem cal93 : callable Tryd.prog 93 = false := by kernel_rfl
theorem cal99 : callable Tryd.prog 99 = false := by kernel_rfl
theorem cal102 : callable Tryd.prog 102 = false := by kernel_rfl
theorem cal103 : callable Tryd.prog 103 = false := by kernel_rfl
theorem cal104 : callable Tryd.prog 104 = false := by kernel_rfl
theorem cal105 : callable Tryd.prog 105 = false := by kernel_rfl
theorem cal106 : callable Tryd.prog 106 = false := by kernel_rfl
theorem cal107 : callable Tryd.prog 107 = false := by kernel_rfl
theorem cal108 : callable Tryd.prog 108 = false := by kernel_rfl
theorem cal109 : callable Tryd.prog 109 = false := by kernel_rfl
theorem cal110 : callable Tryd.prog 110 = false := by kernel_rfl
theorem cal111 : callable Tryd.prog 111 = false := by kernel_rfl
theorem cal112 : callable Tryd.prog 112 = false := by kernel_rfl
theorem cal113 : callable Tryd.prog 113 = false := by kernel_rfl
theorem cal114 : callable Tryd.prog 114 = false := by kernel_rfl
theorem cal115 : callable Tryd.prog 115 = false := by kernel_rfl
theorem cal116 : callable Tryd.prog 116 = false := by kernel_rfl
theorem cal117 : callable Tryd.prog 117 = false := by kernel_rfl
theorem cal118 : callable Tryd.prog 118 = false := by kernel_rfl
theorem cal119 : callable Tryd.prog 119 = false := by kernel_rfl
theorem cal120 : callable Tryd.prog 120 = false := by kernel_rfl
theorem cal121 : callable Tryd.prog 121 = false := by kernel_rfl
theorem cal122 : callable Tryd.prog 122 = false := by kernel_rfl
theorem cal123 : callable Tryd.prog 123 = false := by kernel_rfl
theorem tyS0 : type_of% (And.intro @shp2 (And.intro @zro2 (And.intro @shp3 (And.intro @zro3 (And.intro @shp4 (And.intro @zro4 (And.intro @shp5 (And.intro @zro5 (And.intro @shp6 (And.intro @zro6 (And.intro @shp7 (And.intro @fld7n0 (And.intro @fld7n1 (And.intro @fld7n2 (And.intro @fld7n3 (And.intro @bok7 (And.intro @zro7 (And.intro @shp8 (And.intro @fld8n0 (And.intro @fld8n1 (And.intro @fld8n2 (And.intro @fld8n3 (And.intro @bok8 (And.intro @zro8 (And.intro @shp9 (And.intro @zro9 (And.intro @shp10 (And.intro @zro10 (And.intro @shp11 (And.intro @zro11 (And.intro @shp12 (And.intro @zro12 (And.intro @shp13 (And.intro @fld13n0 (And.intro @fld13n1 (And.intro @bok13 (And.intro @zro13 (And.intro @shp14 (And.intro @fld14n0 (And.intro @fld14n1 (And.intro @bok14 (And.intro @zro14 (And.intro @shp15 (And.intro @zro15 (And.intro @shp16 (And.intro @zro16 (And.intro @shp17 (And.intro @zro17 (And.intro @shp18 (And.intro @fld18n0 (And.intro @bok18 (And.intro @zro18 (And.intro @shp19 (And.intro @fld19n0 (And.intro @bok19 (And.intro @zro19 (And.intro @shp20 (And.intro @zro20 (And.intro @shp21 (And.intro @zro21 (And.intro @shp22 (And.intro @zro22 (And.intro @slc22 (And.intro @shp25 (And.intro @zro25 (And.intro @slc25 (And.intro @shp26 (And.intro @fld26n0 (And.intro @fld26n1 (And.intro @fld26n2 (And.intro @fld26n3 (And.intro @fld26n4 (And.intro @fld26n5 (And.intro @fld26n6 (And.intro @bok26 (And.intro @sih26 (And.intro @egt26 (And.intro @zro26 (And.intro @shp27 (And.intro @fld27n0 (And.intro @fld27n1 (And.intro @fld27n2 (And.intro @fld27n3 (And.intro @fld27n4 (And.intro @fld27n5 (And.intro @fld27n6 (And.intro @bok27 (And.intro @sih27 (And.intro @egt27 (And.intro @zro27 (And.intro @shp30 (And.intro @zro30 (And.intro @shp45 (And.intro @zro45 (And.intro @shp46 (And.intro @bok46 (And.intro @zro46 (And.intro @shp47 (And.intro @bok47 (@zro47)))))))))))))))))))))))))))))))))))))))))))))))))))))))))))))))))))))))))))))))))))))))))))))))))))) := And.intro @shp2 (And.intro @zro2 (And.intro @shp3 (And.intro @zro3 (And.intro @shp4 (And.intro @zro4 (And.intro @shp5 (And.intro @zro5 (And.intro @shp6 (And.intro @zro6 (And.intro @shp7 (And.intro @fld7n0 (And.intro @fld7n1 (And.intro @fld7n2 (And.intro @fld7n3 (And.intro @bok7 (And.intro @zro7 (And.intro @shp8 (And.intro @fld8n0 (And.intro @fld8n1 (And.intro @fld8n2 (And.intro @fld8n3 (And.intro @bok8 (And.intro @zro8 (And.intro @shp9 (And.intro @zro9 (And.intro @shp10 (And.intro @zro10 (And.intro @shp11 (And.intro @zro11 (And.intro @shp12 (And.intro @zro12 (And.intro @shp13 (And.intro @fld13n0 (And.intro @fld13n1 (And.intro @bok13 (And.intro @zro13 (And.intro @shp14 (And.intro @fld14n0 (And.intro @fld14n1 (And.intro @bok14 (And.intro @zro14 (And.intro @shp15 (And.intro @zro15 (And.intro @shp16 (And.intro @zro16 (And.intro @shp17 (And.intro @zro17 (And.intro @shp18 (And.intro @fld18n0 (And.intro @bok18 (And.intro @zro18 (And.intro @shp19 (And.intro @fld19n0 (And.intro @bok19 (And.intro @zro19 (And.intro @shp20 (And.intro @zro20 (And.intro @shp21 (And.intro @zro21 (And.intro @shp22 (And.intro @zro22 (And.intro @slc22 (And.intro @shp25 (And.intro @zro25 (And.intro @slc25 (And.intro @shp26 (And.intro @fld26n0 (And.intro @fld26n1 (And.intro @fld26n2 (And.intro @fld26n3 (And.intro @fld26n4 (And.intro @fld26n5 (And.intro @fld26n6 (And.intro @bok26 (And.intro @sih26 (And.intro @egt26 (And.intro @zro26 (And.intro @shp27 (And.intro @fld27n0 (And.intro @fld27n1 (And.intro @fld27n2 (And.intro @fld27n3 (And.intro @fld27n4 (And.intro @fld27n5 (And.intro @fld27n6 (And.intro @bok27 (And.intro @sih27 (And.intro @egt27 (And.intro @zro27 (And.intro @shp30 (And.intro @zro30 (And.intro @shp45 (And.intro @zro45 (And.intro @shp46 (And.intro @bok46 (And.intro @zro46 (And.intro @shp47 (And.intro @bok47 (@zro47)))))))))))))))))))))))))))))))))))))))))))))))))))))))))))))))))))))))))))))))))))))))))))))))))))
theorem tyS1 : type_of% (And.intro @shp51 (And.intro @zro51 (And.intro @slc51 (And.intro @shp54 (And.intro @zro54 (And.intro @shp55 (And.intro @zro55 (And.intro @slc55 (And.intro @shp56 (And.intro @fld56n0 (And.intro @fld56n1 (And.intro @bok56 (And.intro @zro56 (And.intro @shp57 (And.intro @fld57n0 (And.intro @fld57n1 (And.intro @bok57 (And.intro @zro57 (And.intro @shp59 (And.intro @zro59 (And.intro @shp60 (And.intro @zro60 (And.intro @shp66 (And.intro @zro66 (And.intro @shp69 (And.intro @fld69n0 (And.intro @fld69n1 (And.intro @fld69n2 (And.intro @fld69n3 (And.intro @bok69 (And.intro @sih69 (And.intro @egt69 (And.intro @zro69 (And.intro @shp70 (And.intro @fld70n0 (And.intro @fld70n1 (And.intro @fld70n2 (And.intro @fld70n3 (And.intro @bok70 (And.intro @sih70 (And.intro @egt70 (And.intro @zro70 (And.intro @shp74 (And.intro @zro74 (And.intro @slc74 (And.intro @shp86 (And.intro @zro86 (And.intro @shp87 (And.intro @fld87n0 (And.intro @fld87n1 (And.intro @bok87 (And.intro @sih87 (And.intro @egt87 (And.intro @zro87 (And.intro @shp88 (And.intro @fld88n0 (And.intro @fld88n1 (And.intro @bok88 (And.intro @sih88 (And.intro @egt88 (And.intro @zro88 (And.intro @shp89 (And.intro @zro89 (And.intro @shp90 (And.intro @zro90 (And.intro @slc90 (And.intro @shp99 (And.intro @zro99 (And.intro @shp108 (And.intro @bok108 (And.intro @zro108 (And.intro @shp109 (And.intro @zro109 (And.intro @shp119 (And.intro @zro119 (And.intro @shp122 (And.intro @bok122 (And.intro @zro122 (And.intro @shp123 (And.intro @zro123 (And.intro @shp124 (And.intro @bok124 (And.intro @zro124 (And.intro @shp127 (And.intro @bok127 (And.intro @zro127 (And.intro @shp128 (And.intro @bok128 (And.intro @zro128 (And.intro @shp129 (And.intro @fld129n0 (And.intro @fld129n1 (And.intro @fld129n2 (And.intro @fld129n3 (And.intro @bok129 (And.intro @zro129 (And.intro @shp130 (And.intro @fld130n0 (And.intro @fld130n1 (@fld130n2)))))))))))))))))))))))))))))))))))))))))))))))))))))))))))))))))))))))))))))))))))))))))))))))))))) := And.intro @shp51 (And.intro @zro51 (And.intro @slc51 (And.intro @shp54 (And.intro @zro54 (And.intro @shp55 (And.intro @zro55 (And.intro @slc55 (And.intro @shp56 (And.intro @fld56n0 (And.intro @fld56n1 (And.intro @bok56 (And.intro @zro56 (And.intro @shp57 (And.intro @fld57n0 (And.intro @fld57n1 (And.intro @bok57 (And.intro @zro57 (And.intro @shp59 (And.intro @zro59 (And.intro @shp60 (And.intro @zro60 (And.intro @shp66 (And.intro @zro66 (And.intro @shp69 (And.intro @fld69n0 (And.intro @fld69n1 (And.intro @fld69n2 (And.intro @fld69n3 (And.intro @bok69 (And.intro @sih69 (And.intro @egt69 (And.intro @zro69 (And.intro @shp70 (And.intro @fld70n0 (And.intro @fld70n1 (And.intro @fld70n2 (And.intro @fld70n3 (And.intro @bok70 (And.intro @sih70 (And.intro @egt70 (And.intro @zro70 (And.intro @shp74 (And.intro @zro74 (And.intro @slc74 (And.intro @shp86 (And.intro @zro86 (And.intro @shp87 (And.intro @fld87n0 (And.intro @fld87n1 (And.intro @bok87 (And.intro @sih87 (And.intro @egt87 (And.intro @zro87 (And.intro @shp88 (And.intro @fld88n0 (And.intro @fld88n1 (And.intro @bok88 (And.intro @sih88 (And.intro @egt88 (And.intro @zro88 (And.intro @shp89 (And.intro @zro89 (And.intro @shp90 (And.intro @zro90 (And.intro @slc90 (And.intro @shp99 (And.intro @zro99 (And.intro @shp108 (And.intro @bok108 (And.intro @zro108 (And.intro @shp109 (And.intro @zro109 (And.intro @shp119 (And.intro @zro119 (And.intro @shp122 (And.intro @bok122 (And.intro @zro122 (And.intro @shp123 (And.intro @zro123 (And.intro @shp124 (And.intro @bok124 (And.intro @zro124 (And.intro @shp127 (And.intro @bok127 (And.intro @zro127 (And.intro @shp128 (And.intro @bok128 (And.intro @zro128 (And.intro @shp129 (And.intro @fld129n0 (And.intro @fld129n1 (And.intro @fld129n2 (And.intro @fld129n3 (And.intro @bok129 (And.intro @zro129 (And.intro @shp130 (And.intro @fld130n0 (And.intro @fld130n1 (@fld130n2)))))))))))))))))))))))))))))))))))))))))))))))))))))))))))))))))))))))))))))))))))))))))))))))))))
theorem tyS2 : type_of% (And.intro @fld130n3 (And.intro @bok130 (And.intro @zro130 (And.intro @shp131 (And.intro @bok131 (And.intro @zro131 (And.intro @shp132 (And.intro @fld132n0 (And.intro @bok132 (And.intro @zro132 (And.intro @shp133 (And.intro @fld133n0 (And.intro @bok133 (And.intro @zro133 (And.intro @shp135 (And.intro @zro135 (And.intro @shp136 (And.intro @zro136 (And.intro @shp138 (And.intro @zro138 (And.intro @shp139 (And.intro @zro139 (And.intro @shp140 (And.intro @fld140n0 (And.intro @fld140n1 (And.intro @fld140n2 (And.intro @fld140n3 (And.intro @fld140n4 (And.intro @fld140n5 (And.intro @fld140n6 (And.intro @fld140n7 (And.intro @fld140n8 (And.intro @fld140n9 (And.intro @fld140n10 (And.intro @bok140 (And.intro @zro140 (And.intro @shp141 (And.intro @fld141n0 (And.intro @fld141n1 (And.intro @fld141n2 (And.intro @fld141n3 (And.intro @fld141n4 (And.intro @fld141n5 (And.intro @fld141n6 (And.intro @fld141n7 (And.intro @fld141n8 (And.intro @fld141n9 (And.intro @fld141n10 (And.intro @bok141 (And.intro @zro141 (And.intro @cal2 (And.intro @cal3 (And.intro @cal4 (And.intro @cal5 (And.intro @cal6 (And.intro @cal7 (And.intro @cal8 (And.intro @cal9 (And.intro @cal10 (And.intro @cal11 (And.intro @cal12 (And.intro @cal13 (And.intro @cal14 (And.intro @cal15 (And.intro @cal16 (And.intro @cal17 (And.intro @cal18 (And.intro @cal19 (And.intro @cal20 (And.intro @cal21 (And.intro @cal22 (And.intro @cal23 (And.intro @cal24 (And.intro @cal25 (And.intro @cal26 (And.intro @cal27 (And.intro @cal28 (And.intro @cal29 (And.intro @cal30 (And.intro @cal31 (And.intro @cal32 (And.intro @cal33 (And.intro @cal34 (And.intro @cal35 (And.intro @cal36 (And.intro @cal37 (And.intro @cal38 (And.intro @cal39 (And.intro @cal40 (And.intro @cal41 (And.intro @cal42 (And.intro @cal43 (And.intro @cal44 (And.intro @cal45 (And.intro @cal46 (And.intro @cal47 (And.intro @cal48 (And.intro @cal49 (And.intro @cal50 (@cal51)))))))))))))))))))))))))))))))))))))))))))))))))))))))))))))))))))))))))))))))))))))))))))))))))))) := And.intro @fld130n3 (And.intro @bok130 (And.intro @zro130 (And.intro @shp131 (And.intro @bok131 (And.intro @zro131 (And.intro @shp132 (And.intro @fld132n0 (And.intro @bok132 (And.intro @zro132 (And.intro @shp133 (And.intro @fld133n0 (And.intro @bok133 (And.intro @zro133 (And.intro @shp135 (And.intro @zro135 (And.intro @shp136 (And.intro @zro136 (And.intro @shp138 (And.intro @zro138 (And.intro @shp139 (And.intro @zro139 (And.intro @shp140 (And.intro @fld140n0 (And.intro @fld140n1 (And.intro @fld140n2 (And.intro @fld140n3 (And.intro @fld140n4 (And.intro @fld140n5 (And.intro @fld140n6 (And.intro @fld140n7 (And.intro @fld140n8 (And.intro @fld140n9 (And.intro @fld140n10 (And.intro @bok140 (And.intro @zro140 (And.intro @shp141 (And.intro @fld141n0 (And.intro @fld141n1 (And.intro @fld141n2 (And.intro @fld141n3 (And.intro @fld141n4 (And.intro @fld141n5 (And.intro @fld141n6 (And.intro @fld141n7 (And.intro @fld141n8 (And.intro @fld141n9 (And.intro @fld141n10 (And.intro @bok141 (And.intro @zro141 (And.intro @cal2 (And.intro @cal3 (And.intro @cal4 (And.intro @cal5 (And.intro @cal6 (And.intro @cal7 (And.intro @cal8 (And.intro @cal9 (And.intro @cal10 (And.intro @cal11 (And.intro @cal12 (And.intro @cal13 (And.intro @cal14 (And.intro @cal15 (And.intro @cal16 (And.intro @cal17 (And.intro @cal18 (And.intro @cal19 (And.intro @cal20 (And.intro @cal21 (And.intro @cal22 (And.intro @cal23 (And.intro @cal24 (And.intro @cal25 (And.intro @cal26 (And.intro @cal27 (And.intro @cal28 (And.intro @cal29 (And.intro @cal30 (And.intro @cal31 (And.intro @cal32 (And.intro @cal33 (And.intro @cal34 (And.intro @cal35 (And.intro @cal36 (And.intro @cal37 (And.intro @cal38 (And.intro @cal39 (And.intro @cal40 (And.intro @cal41 (And.intro @cal42 (And.intro @cal43 (And.intro @cal44 (And.intro @cal45 (And.intro @cal46 (And.intro @cal47 (And.intro @cal48 (And.intro @cal49 (And.intro @cal50 (@cal51)))))))))))))))))))))))))))))))))))))))))))))))))))))))))))))))))))))))))))))))))))))))))))))))))))
theorem tyS3 : type_of% (And.intro @cal52 (And.intro @cal53 (And.intro @cal54 (And.intro @cal55 (And.intro @cal56 (And.intro @cal57 (And.intro @cal58 (And.intro @cal59 (And.intro @cal60 (And.intro @cal61 (And.intro @cal62 (And.intro @cal63 (And.intro @cal64 (And.intro @cal65 (And.intro @cal66 (And.intro @cal67 (And.intro @cal68 (And.intro @cal69 (And.intro @cal70 (And.intro @cal72 (And.intro @cal73 (And.intro @cal74 (And.intro @cal75 (And.intro @cal76 (And.intro @cal77 (And.intro @cal78 (And.intro @cal79 (And.intro @cal80 (And.intro @cal81 (And.intro @cal82 (And.intro @cal83 (And.intro @cal84 (And.intro @cal85 (And.intro @cal87 (And.intro @cal88 (And.intro @cal89 (And.intro @cal90 (And.intro @cal91 (And.intro @cal92 (And.intro @cal94 (And.intro @cal95 (And.intro @cal96 (And.intro @cal97 (And.intro @cal98 (And.intro @cal100 (And.intro @cal101 (And.intro @cal124 (And.intro @cal0 (And.intro @cal1 (And.intro @cal71 (And.intro @cal86 (And.intro @cal93 (And.intro @cal99 (And.intro @cal102 (And.intro @cal103 (And.intro @cal104 (And.intro @cal105 (And.intro @cal106 (And.intro @cal107 (And.intro @cal108 (And.intro @cal109 (And.intro @cal110 (And.intro @cal111 (And.intro @cal112 (And.intro @cal113 (And.intro @cal114 (And.intro @cal115 (And.intro @cal116 (And.intro @cal117 (And.intro @cal118 (And.intro @cal119 (And.intro @cal120 (And.intro @cal121 (And.intro @cal122 (And.intro @cal123 (And.intro @Tryd.underlying2 (And.intro @Tryd.underlying3 (And.intro @Tryd.underlying4 (And.intro @Tryd.underlying5 (And.intro @Tryd.underlying6 (And.intro @Tryd.underlying7 (And.intro @Tryd.underlying8 (And.intro @Tryd.underlying9 (And.intro @Tryd.underlying10 (And.intro @Tryd.underlying11 (And.intro @Tryd.underlying12 (And.intro @Tryd.underlying13 (And.intro @Tryd.underlying14 (And.intro @Tryd.underlying15 (And.intro @Tryd.underlying16 (And.intro @Tryd.underlying17 (And.intro @Tryd.underlying18 (And.intro @Tryd.underlying19 (And.intro @Tryd.underlying21 (And.intro @Tryd.underlying22 (And.intro @Tryd.underlying25 (And.intro @Tryd.underlying26 (And.intro @Tryd.underlying27 (And.intro @Tryd.underlying30 (@Tryd.underlying45)))))))))))))))))))))))))))))))))))))))))))))))))))))))))))))))))))))))))))))))))))))))))))))))))))) := And.intro @cal52 (And.intro @cal53 (And.intro @cal54 (And.intro @cal55 (And.intro @cal56 (And.intro @cal57 (And.intro @cal58 (And.intro @cal59 (And.intro @cal60 (And.intro @cal61 (And.intro @cal62 (And.intro @cal63 (And.intro @cal64 (And.intro @cal65 (And.intro @cal66 (And.intro @cal67 (And.intro @cal68 (And.intro @cal69 (And.intro @cal70 (And.intro @cal72 (And.intro @cal73 (And.intro @cal74 (And.intro @cal75 (And.intro @cal76 (And.intro @cal77 (And.intro @cal78 (And.intro @cal79 (And.intro @cal80 (And.intro @cal81 (And.intro @cal82 (And.intro @cal83 (And.intro @cal84 (And.intro @cal85 (And.intro @cal87 (And.intro @cal88 (And.intro @cal89 (And.intro @cal90 (And.intro @cal91 (And.intro @cal92 (And.intro @cal94 (And.intro @cal95 (And.intro @cal96 (And.intro @cal97 (And.intro @cal98 (And.intro @cal100 (And.intro @cal101 (And.intro @cal124 (And.intro @cal0 (And.intro @cal1 (And.intro @cal71 (And.intro @cal86 (And.intro @cal93 (And.intro @cal99 (And.intro @cal102 (And.intro @cal103 (And.intro @cal104 (And.intro @cal105 (And.intro @cal106 (And.intro @cal107 (And.intro @cal108 (And.intro @cal109 (And.intro @cal110 (And.intro @cal111 (And.intro @cal112 (And.intro @cal113 (And.intro @cal114 (And.intro @cal115 (And.intro @cal116 (And.intro @cal117 (And.intro @cal118 (And.intro @cal119 (And.intro @cal120 (And.intro @cal121 (And.intro @cal122 (And.intro @cal123 (And.intro @Tryd.underlying2 (And.intro @Tryd.underlying3 (And.intro @Tryd.underlying4 (And.intro @Tryd.underlying5 (And.intro @Tryd.underlying6 (And.intro @Tryd.underlying7 (And.intro @Tryd.underlying8 (And.intro @Tryd.underlying9 (And.intro @Tryd.underlying10 (And.intro @Tryd.underlying11 (And.intro @Tryd.underlying12 (And.intro @Tryd.underlying13 (And.intro @Tryd.underlying14 (And.intro @Tryd.underlying15 (And.intro @Tryd.underlying16 (And.intro @Tryd.underlying17 (And.intro @Tryd.underlying18 (And.intro @Tryd.underlying19 (And.intro @Tryd.underlying21 (And.intro @Tryd.underlying22 (And.intro @Tryd.underlying25 (And.intro @Tryd.underlying26 (And.intro @Tryd.underlying27 (And.intro @Tryd.underlying30 (@Tryd.underlying45)))))))))))))))))))))))))))))))))))))))))))))))))))))))))))))))))))))))))))))))))))))))))))))))))))
theorem tyS4 : type_of% (And.intro @Tryd.underlying46 (And.intro @Tryd.underlying47 (And.intro @Tryd.underlying51 (And.intro @Tryd.underlying54 (And.intro @Tryd.underlying55 (And.intro @Tryd.underlying56 (And.intro @Tryd.underlying57 (And.intro @Tryd.underlying66 (And.intro @Tryd.underlying69 (And.intro @Tryd.underlying70 (And.intro @Tryd.underlying74 (And.intro @Tryd.underlying86 (And.intro @Tryd.underlying87 (And.intro @Tryd.underlying88 (And.intro @Tryd.underlying89 (And.intro @Tryd.underlying90 (And.intro @Tryd.underlying99 (And.intro @Tryd.underlying108 (And.intro @Tryd.underlying109 (And.intro @Tryd.underlying119 (And.intro @Tryd.underlying122 (And.intro @Tryd.underlying123 (And.intro @Tryd.underlying124 (And.intro @Tryd.underlying127 (And.intro @Tryd.underlying128 (And.intro @Tryd.underlying129 (And.intro @Tryd.underlying130 (And.intro @Tryd.underlying131 (And.intro @Tryd.underlying132 (And.intro @Tryd.underlying133 (And.intro @Tryd.underlying135 (And.intro @Tryd.underlying136 (And.intro @Tryd.underlying138 (And.intro @Tryd.underlying139 (And.intro @Tryd.underlying140 (And.intro @Tryd.underlying141 (And.intro @Tryd.results2 (And.intro @Tryd.results3 (And.intro @Tryd.results4 (And.intro @Tryd.results5 (And.intro @Tryd.results6 (And.intro @Tryd.results7 (And.intro @Tryd.results8 (And.intro @Tryd.results9 (And.intro @Tryd.results10 (And.intro @Tryd.results11 (And.intro @Tryd.results12 (And.intro @Tryd.results13 (And.intro @Tryd.results14 (And.intro @Tryd.results15 (And.intro @Tryd.results16 (And.intro @Tryd.results17 (And.intro @Tryd.results18 (And.intro @Tryd.results19 (And.intro @Tryd.results20 (And.intro @Tryd.results21 (And.intro @Tryd.results22 (And.intro @Tryd.results23 (And.intro @Tryd.results24 (And.intro @Tryd.results25 (And.intro @Tryd.results26 (And.intro @Tryd.results27 (And.intro @Tryd.results28 (And.intro @Tryd.results29 (And.intro @Tryd.results30 (And.intro @Tryd.results31 (And.intro @Tryd.results32 (And.intro @Tryd.results33 (And.intro @Tryd.results34 (And.intro @Tryd.results35 (And.intro @Tryd.results36 (And.intro @Tryd.results37 (And.intro @Tryd.results38 (And.intro @Tryd.results39 (And.intro @Tryd.results40 (And.intro @Tryd.results41 (And.intro @Tryd.results42 (And.intro @Tryd.results43 (And.intro @Tryd.results44 (And.intro @Tryd.results45 (And.intro @Tryd.results46 (And.intro @Tryd.results47 (And.intro @Tryd.results48 (And.intro @Tryd.results49 (And.intro @Tryd.results50 (And.intro @Tryd.results51 (And.intro @Tryd.results52 (And.intro @Tryd.results53 (And.intro @Tryd.results54 (And.intro @Tryd.results55 (And.intro @Tryd.results56 (And.intro @Tryd.results57 (And.intro @Tryd.results58 (And.intro @Tryd.results59 (And.intro @Tryd.results60 (And.intro @Tryd.results61 (And.intro @Tryd.results62 (And.intro @Tryd.results63 (And.intro @Tryd.results64 (@Tryd.results65)))))))))))))))))))))))))))))))))))))))))))))))))))))))))))))))))))))))))))))))))))))))))))))))))))) := And.intro @Tryd.underlying46 (And.intro @Tryd.underlying47 (And.intro @Tryd.underlying51 (And.intro @Tryd.underlying54 (And.intro @Tryd.underlying55 (And.intro @Tryd.underlying56 (And.intro @Tryd.underlying57 (And.intro @Tryd.underlying66 (And.intro @Tryd.underlying69 (And.intro @Tryd.underlying70 (And.intro @Tryd.underlying74 (And.intro @Tryd.underlying86 (And.intro @Tryd.underlying87 (And.intro @Tryd.underlying88 (And.intro @Tryd.underlying89 (And.intro @Tryd.underlying90 (And.intro @Tryd.underlying99 (And.intro @Tryd.underlying108 (And.intro @Tryd.underlying109 (And.intro @Tryd.underlying119 (And.intro @Tryd.underlying122 (And.intro @Tryd.underlying123 (And.intro @Tryd.underlying124 (And.intro @Tryd.underlying127 (And.intro @Tryd.underlying128 (And.intro @Tryd.underlying129 (And.intro @Tryd.underlying130 (And.intro @Tryd.underlying131 (And.intro @Tryd.underlying132 (And.intro @Tryd.underlying133 (And.intro @Tryd.underlying135 (And.intro @Tryd.underlying136 (And.intro @Tryd.underlying138 (And.intro @Tryd.underlying139 (And.intro @Tryd.underlying140 (And.intro @Tryd.underlying141 (And.intro @Tryd.results2 (And.intro @Tryd.results3 (And.intro @Tryd.results4 (And.intro @Tryd.results5 (And.intro @Tryd.results6 (And.intro @Tryd.results7 (And.intro @Tryd.results8 (And.intro @Tryd.results9 (And.intro @Tryd.results10 (And.intro @Tryd.results11 (And.intro @Tryd.results12 (And.intro @Tryd.results13 (And.intro @Tryd.results14 (And.intro @Tryd.results15 (And.intro @Tryd.results16 (And.intro @Tryd.results17 (And.intro @Tryd.results18 (And.intro @Tryd.results19 (And.intro @Tryd.results20 (And.intro @Tryd.results21 (And.intro @Tryd.results22 (And.intro @Tryd.results23 (And.intro @Tryd.results24 (And.intro @Tryd.results25 (And.intro @Tryd.results26 (And.intro @Tryd.results27 (And.intro @Tryd.results28 (And.intro @Tryd.results29 (And.intro @Tryd.results30 (And.intro @Tryd.results31 (And.intro @Tryd.results32 (And.intro @Tryd.results33 (And.intro @Tryd.results34 (And.intro @Tryd.results35 (And.intro @Tryd.results36 (And.intro @Tryd.results37 (And.intro @Tryd.results38 (And.intro @Tryd.results39 (And.intro @Tryd.results40 (And.intro @Tryd.results41 (And.intro @Tryd.results42 (And.intro @Tryd.results43 (And.intro @Tryd.results44 (And.intro @Tryd.results45 (And.intro @Tryd.results46 (And.intro @Tryd.results47 (And.intro @Tryd.results48 (And.intro @Tryd.results49 (And.intro @Tryd.results50 (And.intro @Tryd.results51 (And.intro @Tryd.results52 (And.intro @Tryd.results53 (And.intro @Tryd.results54 (And.intro @Tryd.results55 (And.intro @Tryd.results56 (And.intro @Tryd.results57 (And.intro @Tryd.results58 (And.intro @Tryd.results59 (And.intro @Tryd.results60 (And.intro @Tryd.results61 (And.intro @Tryd.results62 (And.intro @Tryd.results63 (And.intro @Tryd.results64 (@Tryd.results65)))))))))))))))))))))))))))))))))))))))))))))))))))))))))))))))))))))))))))))))))))))))))))))))))))
theorem tyS5 : type_of% (And.intro @Tryd.results66 (And.intro @Tryd.results67 (And.intro @Tryd.results68 (And.intro @Tryd.results69 (And.intro @Tryd.results70 (And.intro @Tryd.results72 (And.intro @Tryd.results73 (And.intro @Tryd.results74 (And.intro @Tryd.results75 (And.intro @Tryd.results76 (And.intro @Tryd.results77 (And.intro @Tryd.results78 (And.intro @Tryd.results79 (And.intro @Tryd.results80 (And.intro @Tryd.results81 (And.intro @Tryd.results82 (And.intro @Tryd.results83 (And.intro @Tryd.results84 (And.intro @Tryd.results85 (And.intro @Tryd.results87 (And.intro @Tryd.results88 (And.intro @Tryd.results89 (And.intro @Tryd.results90 (And.intro @Tryd.results91 (And.intro @Tryd.results92 (And.intro @Tryd.results94 (And.intro @Tryd.results95 (And.intro @Tryd.results96 (And.intro @Tryd.results97 (And.intro @Tryd.results98 (And.intro @Tryd.results100 (And.intro @Tryd.results101 (@Tryd.results124))))))))))))))))))))))))))))))))) := And.intro @Tryd.results66 (And.intro @Tryd.results67 (And.intro @Tryd.results68 (And.intro @Tryd.results69 (And.intro @Tryd.results70 (And.intro @Tryd.results72 (And.intro @Tryd.results73 (And.intro @Tryd.results74 (And.intro @Tryd.results75 (And.intro @Tryd.results76 (And.intro @Tryd.results77 (And.intro @Tryd.results78 (And.intro @Tryd.results79 (And.intro @Tryd.results80 (And.intro @Tryd.results81 (And.intro @Tryd.results82 (And.intro @Tryd.results83 (And.intro @Tryd.results84 (And.intro @Tryd.results85 (And.intro @Tryd.results87 (And.intro @Tryd.results88 (And.intro @Tryd.results89 (And.intro @Tryd.results90 (And.intro @Tryd.results91 (And.intro @Tryd.results92 (And.intro @Tryd.results94 (And.intro @Tryd.results95 (And.intro @Tryd.results96 (And.intro @Tryd.results97 (And.intro @Tryd.results98 (And.intro @Tryd.results100 (And.intro @Tryd.results101 (@Tryd.results124))))))))))))))))))))))))))))))))
theorem tyS : type_of% (And.intro @tyS0 (And.intro @tyS1 (And.intro @tyS2 (And.intro @tyS3 (And.intro @tyS4 (@tyS5)))))) := And.intro @tyS0 (And.intro @tyS1 (And.intro @tyS2 (And.intro @tyS3 (And.intro @tyS4 (@tyS5)))))
end Go.Proofs.YtamiclgnehfhpaaDoor
