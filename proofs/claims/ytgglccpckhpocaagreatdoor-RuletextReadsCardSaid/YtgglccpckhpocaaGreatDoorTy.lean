/-
Closed facts on the types and functions of this translation.
Conditions: none.
-/
import Derived.Test.YtgglccpckhpocaaGreatDoorProg
import Derived.Test.YtgglccpckhpocaaGreatDoorVmEq
import Derived.KernelRfl
set_option linter.unusedSimpArgs false
set_option linter.unusedVariables false
namespace Go.Proofs.YtgglccpckhpocaaGreatDoor
open Go.Vm
set_option maxRecDepth 100000
theorem shp2 : shp Tryz.prog 2 = some (false, 1) := by kernel_rfl
theorem zro2 : zro Tryz.prog 2 = some (.int .i64 0) := by kernel_rfl
theorem shp3 : shp Tryz.prog 3 = some (false, 1) := by kernel_rfl
theorem zro3 : zro Tryz.prog 3 = some (.int .i64 0) := by kernel_rfl
theorem shp4 : shp Tryz.prog 4 = some (false, 1) := by kernel_rfl
theorem zro4 : zro Tryz.prog 4 = some (.bool false) := by kernel_rfl
theorem shp5 : shp Tryz.prog 5 = some (false, 1) := by kernel_rfl
theorem zro5 : zro Tryz.prog 5 = some (.int .u8 0) := by kernel_rfl
theorem shp6 : shp Tryz.prog 6 = some (false, 1) := by kernel_rfl
theorem zro6 : zro Tryz.prog 6 = some (.int .u8 0) := by kernel_rfl
theorem shp7 : shp Tryz.prog 7 = some (true, 4) := by kernel_rfl
theorem fld7n0 : fld Tryz.prog 7 0 = some (0, false, 1) := by kernel_rfl
theorem fld7n1 : fld Tryz.prog 7 1 = some (1, false, 1) := by kernel_rfl
theorem fld7n2 : fld Tryz.prog 7 2 = some (2, false, 1) := by kernel_rfl
theorem fld7n3 : fld Tryz.prog 7 3 = some (3, false, 1) := by kernel_rfl
theorem bok7 : bldOk Tryz.prog 7 = true := by kernel_rfl
theorem zro7 : zro Tryz.prog 7 = some (.agg #[.int .i64 0, .int .i64 0, .bool false, .int .u8 0]) := by kernel_rfl
theorem shp8 : shp Tryz.prog 8 = some (true, 4) := by kernel_rfl
theorem fld8n0 : fld Tryz.prog 8 0 = some (0, false, 1) := by kernel_rfl
theorem fld8n1 : fld Tryz.prog 8 1 = some (1, false, 1) := by kernel_rfl
theorem fld8n2 : fld Tryz.prog 8 2 = some (2, false, 1) := by kernel_rfl
theorem fld8n3 : fld Tryz.prog 8 3 = some (3, false, 1) := by kernel_rfl
theorem bok8 : bldOk Tryz.prog 8 = true := by kernel_rfl
theorem zro8 : zro Tryz.prog 8 = some (.agg #[.int .i64 0, .int .i64 0, .bool false, .int .u8 0]) := by kernel_rfl
theorem shp9 : shp Tryz.prog 9 = some (false, 1) := by kernel_rfl
theorem zro9 : zro Tryz.prog 9 = some (.string ⟨#[]⟩) := by kernel_rfl
theorem shp10 : shp Tryz.prog 10 = some (false, 1) := by kernel_rfl
theorem zro10 : zro Tryz.prog 10 = some (.string ⟨#[]⟩) := by kernel_rfl
theorem shp11 : shp Tryz.prog 11 = some (false, 1) := by kernel_rfl
theorem zro11 : zro Tryz.prog 11 = some (.string ⟨#[]⟩) := by kernel_rfl
theorem shp12 : shp Tryz.prog 12 = some (false, 1) := by kernel_rfl
theorem zro12 : zro Tryz.prog 12 = some (.int .u64 0) := by kernel_rfl
theorem shp13 : shp Tryz.prog 13 = some (true, 2) := by kernel_rfl
theorem fld13n0 : fld Tryz.prog 13 0 = some (0, false, 1) := by kernel_rfl
theorem fld13n1 : fld Tryz.prog 13 1 = some (1, false, 1) := by kernel_rfl
theorem bok13 : bldOk Tryz.prog 13 = true := by kernel_rfl
theorem zro13 : zro Tryz.prog 13 = some (.agg #[.string ⟨#[]⟩, .int .u64 0]) := by kernel_rfl
theorem shp14 : shp Tryz.prog 14 = some (true, 2) := by kernel_rfl
theorem fld14n0 : fld Tryz.prog 14 0 = some (0, false, 1) := by kernel_rfl
theorem fld14n1 : fld Tryz.prog 14 1 = some (1, false, 1) := by kernel_rfl
theorem bok14 : bldOk Tryz.prog 14 = true := by kernel_rfl
theorem zro14 : zro Tryz.prog 14 = some (.agg #[.string ⟨#[]⟩, .int .u64 0]) := by kernel_rfl
theorem shp15 : shp Tryz.prog 15 = some (false, 1) := by kernel_rfl
theorem zro15 : zro Tryz.prog 15 = some (.pointer none) := by kernel_rfl
theorem shp16 : shp Tryz.prog 16 = some (false, 1) := by kernel_rfl
theorem zro16 : zro Tryz.prog 16 = some (.pointer none) := by kernel_rfl
theorem shp17 : shp Tryz.prog 17 = some (false, 1) := by kernel_rfl
theorem zro17 : zro Tryz.prog 17 = some (.pointer none) := by kernel_rfl
theorem shp18 : shp Tryz.prog 18 = some (true, 1) := by kernel_rfl
theorem fld18n0 : fld Tryz.prog 18 0 = some (0, false, 1) := by kernel_rfl
theorem bok18 : bldOk Tryz.prog 18 = true := by kernel_rfl
theorem zro18 : zro Tryz.prog 18 = some (.agg #[.pointer none]) := by kernel_rfl
theorem shp19 : shp Tryz.prog 19 = some (true, 1) := by kernel_rfl
theorem fld19n0 : fld Tryz.prog 19 0 = some (0, false, 1) := by kernel_rfl
theorem bok19 : bldOk Tryz.prog 19 = true := by kernel_rfl
theorem zro19 : zro Tryz.prog 19 = some (.agg #[.pointer none]) := by kernel_rfl
theorem shp20 : shp Tryz.prog 20 = some (false, 1) := by kernel_rfl
theorem zro20 : zro Tryz.prog 20 = some (.nilIface) := by kernel_rfl
theorem shp21 : shp Tryz.prog 21 = some (false, 1) := by kernel_rfl
theorem zro21 : zro Tryz.prog 21 = some (.int .i32 0) := by kernel_rfl
theorem shp23 : shp Tryz.prog 23 = some (false, 1) := by kernel_rfl
theorem zro23 : zro Tryz.prog 23 = some (.slice none 0 0) := by kernel_rfl
theorem slc23 : slc Tryz.prog 23 = some (43, 8, 104) := by kernel_rfl
theorem shp24 : shp Tryz.prog 24 = some (false, 1) := by kernel_rfl
theorem zro24 : zro Tryz.prog 24 = some (.int .i64 0) := by kernel_rfl
theorem shp29 : shp Tryz.prog 29 = some (false, 1) := by kernel_rfl
theorem zro29 : zro Tryz.prog 29 = some (.slice none 0 0) := by kernel_rfl
theorem slc29 : slc Tryz.prog 29 = some (31, 5, 72) := by kernel_rfl
theorem shp30 : shp Tryz.prog 30 = some (true, 5) := by kernel_rfl
theorem fld30n0 : fld Tryz.prog 30 0 = some (0, false, 1) := by kernel_rfl
theorem fld30n1 : fld Tryz.prog 30 1 = some (1, false, 1) := by kernel_rfl
theorem fld30n2 : fld Tryz.prog 30 2 = some (2, false, 1) := by kernel_rfl
theorem fld30n3 : fld Tryz.prog 30 3 = some (3, false, 1) := by kernel_rfl
theorem fld30n4 : fld Tryz.prog 30 4 = some (4, false, 1) := by kernel_rfl
theorem bok30 : bldOk Tryz.prog 30 = true := by kernel_rfl
theorem sih30 : Tryz.prog.stoodInHeld 30 = false := by kernel_rfl
theorem egt30 : Tryz.prog.eqGuardType Tryz.prog.depth 30 = false := by kernel_rfl
theorem zro30 : zro Tryz.prog 30 = some (.agg #[.int .i64 0, .string ⟨#[]⟩, .string ⟨#[]⟩, .int .i64 0, .slice none 0 0]) := by kernel_rfl
theorem shp31 : shp Tryz.prog 31 = some (true, 5) := by kernel_rfl
theorem fld31n0 : fld Tryz.prog 31 0 = some (0, false, 1) := by kernel_rfl
theorem fld31n1 : fld Tryz.prog 31 1 = some (1, false, 1) := by kernel_rfl
theorem fld31n2 : fld Tryz.prog 31 2 = some (2, false, 1) := by kernel_rfl
theorem fld31n3 : fld Tryz.prog 31 3 = some (3, false, 1) := by kernel_rfl
theorem fld31n4 : fld Tryz.prog 31 4 = some (4, false, 1) := by kernel_rfl
theorem bok31 : bldOk Tryz.prog 31 = true := by kernel_rfl
theorem sih31 : Tryz.prog.stoodInHeld 31 = false := by kernel_rfl
theorem egt31 : Tryz.prog.eqGuardType Tryz.prog.depth 31 = false := by kernel_rfl
theorem zro31 : zro Tryz.prog 31 = some (.agg #[.int .i64 0, .string ⟨#[]⟩, .string ⟨#[]⟩, .int .i64 0, .slice none 0 0]) := by kernel_rfl
theorem shp42 : shp Tryz.prog 42 = some (true, 8) := by kernel_rfl
theorem fld42n0 : fld Tryz.prog 42 0 = some (0, false, 1) := by kernel_rfl
theorem fld42n1 : fld Tryz.prog 42 1 = some (1, true, 5) := by kernel_rfl
theorem fld42n2 : fld Tryz.prog 42 2 = some (6, false, 1) := by kernel_rfl
theorem fld42n3 : fld Tryz.prog 42 3 = some (7, false, 1) := by kernel_rfl
theorem bok42 : bldOk Tryz.prog 42 = true := by kernel_rfl
theorem sih42 : Tryz.prog.stoodInHeld 42 = false := by kernel_rfl
theorem egt42 : Tryz.prog.eqGuardType Tryz.prog.depth 42 = false := by kernel_rfl
theorem zro42 : zro Tryz.prog 42 = some (.agg #[.string ⟨#[]⟩, .int .i64 0, .string ⟨#[]⟩, .string ⟨#[]⟩, .int .i64 0, .slice none 0 0, .int .i64 0, .int .i64 0]) := by kernel_rfl
theorem shp43 : shp Tryz.prog 43 = some (true, 8) := by kernel_rfl
theorem fld43n0 : fld Tryz.prog 43 0 = some (0, false, 1) := by kernel_rfl
theorem fld43n1 : fld Tryz.prog 43 1 = some (1, true, 5) := by kernel_rfl
theorem fld43n2 : fld Tryz.prog 43 2 = some (6, false, 1) := by kernel_rfl
theorem fld43n3 : fld Tryz.prog 43 3 = some (7, false, 1) := by kernel_rfl
theorem bok43 : bldOk Tryz.prog 43 = true := by kernel_rfl
theorem sih43 : Tryz.prog.stoodInHeld 43 = false := by kernel_rfl
theorem egt43 : Tryz.prog.eqGuardType Tryz.prog.depth 43 = false := by kernel_rfl
theorem zro43 : zro Tryz.prog 43 = some (.agg #[.string ⟨#[]⟩, .int .i64 0, .string ⟨#[]⟩, .string ⟨#[]⟩, .int .i64 0, .slice none 0 0, .int .i64 0, .int .i64 0]) := by kernel_rfl
theorem shp46 : shp Tryz.prog 46 = some (false, 1) := by kernel_rfl
theorem zro46 : zro Tryz.prog 46 = some (.pointer none) := by kernel_rfl
theorem shp47 : shp Tryz.prog 47 = some (true, 4) := by kernel_rfl
theorem fld47n0 : fld Tryz.prog 47 0 = some (0, false, 1) := by kernel_rfl
theorem fld47n1 : fld Tryz.prog 47 1 = some (1, false, 1) := by kernel_rfl
theorem fld47n2 : fld Tryz.prog 47 2 = some (2, false, 1) := by kernel_rfl
theorem fld47n3 : fld Tryz.prog 47 3 = some (3, false, 1) := by kernel_rfl
theorem bok47 : bldOk Tryz.prog 47 = true := by kernel_rfl
theorem sih47 : Tryz.prog.stoodInHeld 47 = false := by kernel_rfl
theorem egt47 : Tryz.prog.eqGuardType Tryz.prog.depth 47 = false := by kernel_rfl
theorem zro47 : zro Tryz.prog 47 = some (.agg #[.int .i64 0, .string ⟨#[]⟩, .int .i64 0, .int .i64 0]) := by kernel_rfl
theorem shp48 : shp Tryz.prog 48 = some (true, 4) := by kernel_rfl
theorem fld48n0 : fld Tryz.prog 48 0 = some (0, false, 1) := by kernel_rfl
theorem fld48n1 : fld Tryz.prog 48 1 = some (1, false, 1) := by kernel_rfl
theorem fld48n2 : fld Tryz.prog 48 2 = some (2, false, 1) := by kernel_rfl
theorem fld48n3 : fld Tryz.prog 48 3 = some (3, false, 1) := by kernel_rfl
theorem bok48 : bldOk Tryz.prog 48 = true := by kernel_rfl
theorem sih48 : Tryz.prog.stoodInHeld 48 = false := by kernel_rfl
theorem egt48 : Tryz.prog.eqGuardType Tryz.prog.depth 48 = false := by kernel_rfl
theorem zro48 : zro Tryz.prog 48 = some (.agg #[.int .i64 0, .string ⟨#[]⟩, .int .i64 0, .int .i64 0]) := by kernel_rfl
theorem shp49 : shp Tryz.prog 49 = some (false, 1) := by kernel_rfl
theorem zro49 : zro Tryz.prog 49 = some (.pointer none) := by kernel_rfl
theorem shp50 : shp Tryz.prog 50 = some (true, 1) := by kernel_rfl
theorem fld50n0 : fld Tryz.prog 50 0 = some (0, false, 1) := by kernel_rfl
theorem bok50 : bldOk Tryz.prog 50 = true := by kernel_rfl
theorem sih50 : Tryz.prog.stoodInHeld 50 = false := by kernel_rfl
theorem egt50 : Tryz.prog.eqGuardType Tryz.prog.depth 50 = false := by kernel_rfl
theorem zro50 : zro Tryz.prog 50 = some (.agg #[.pointer none]) := by kernel_rfl
theorem shp51 : shp Tryz.prog 51 = some (true, 1) := by kernel_rfl
theorem fld51n0 : fld Tryz.prog 51 0 = some (0, false, 1) := by kernel_rfl
theorem bok51 : bldOk Tryz.prog 51 = true := by kernel_rfl
theorem sih51 : Tryz.prog.stoodInHeld 51 = false := by kernel_rfl
theorem egt51 : Tryz.prog.eqGuardType Tryz.prog.depth 51 = false := by kernel_rfl
theorem zro51 : zro Tryz.prog 51 = some (.agg #[.pointer none]) := by kernel_rfl
theorem shp55 : shp Tryz.prog 55 = some (false, 1) := by kernel_rfl
theorem zro55 : zro Tryz.prog 55 = some (.slice none 0 0) := by kernel_rfl
theorem slc55 : slc Tryz.prog 55 = some (48, 4, 40) := by kernel_rfl
theorem shp58 : shp Tryz.prog 58 = some (false, 1) := by kernel_rfl
theorem zro58 : zro Tryz.prog 58 = some (.pointer none) := by kernel_rfl
theorem shp59 : shp Tryz.prog 59 = some (true, 4) := by kernel_rfl
theorem fld59n0 : fld Tryz.prog 59 0 = some (0, false, 1) := by kernel_rfl
theorem fld59n1 : fld Tryz.prog 59 1 = some (1, false, 1) := by kernel_rfl
theorem fld59n2 : fld Tryz.prog 59 2 = some (2, false, 1) := by kernel_rfl
theorem fld59n3 : fld Tryz.prog 59 3 = some (3, false, 1) := by kernel_rfl
theorem bok59 : bldOk Tryz.prog 59 = true := by kernel_rfl
theorem sih59 : Tryz.prog.stoodInHeld 59 = false := by kernel_rfl
theorem egt59 : Tryz.prog.eqGuardType Tryz.prog.depth 59 = false := by kernel_rfl
theorem zro59 : zro Tryz.prog 59 = some (.agg #[.slice none 0 0, .int .i64 0, .int .i64 0, .int .i64 0]) := by kernel_rfl
theorem shp60 : shp Tryz.prog 60 = some (true, 4) := by kernel_rfl
theorem fld60n0 : fld Tryz.prog 60 0 = some (0, false, 1) := by kernel_rfl
theorem fld60n1 : fld Tryz.prog 60 1 = some (1, false, 1) := by kernel_rfl
theorem fld60n2 : fld Tryz.prog 60 2 = some (2, false, 1) := by kernel_rfl
theorem fld60n3 : fld Tryz.prog 60 3 = some (3, false, 1) := by kernel_rfl
theorem bok60 : bldOk Tryz.prog 60 = true := by kernel_rfl
theorem sih60 : Tryz.prog.stoodInHeld 60 = false := by kernel_rfl
theorem egt60 : Tryz.prog.eqGuardType Tryz.prog.depth 60 = false := by kernel_rfl
theorem zro60 : zro Tryz.prog 60 = some (.agg #[.slice none 0 0, .int .i64 0, .int .i64 0, .int .i64 0]) := by kernel_rfl
theorem shp68 : shp Tryz.prog 68 = some (false, 1) := by kernel_rfl
theorem zro68 : zro Tryz.prog 68 = some (.pointer none) := by kernel_rfl
theorem shp69 : shp Tryz.prog 69 = some (false, 1) := by kernel_rfl
theorem zro69 : zro Tryz.prog 69 = some (.slice none 0 0) := by kernel_rfl
theorem slc69 : slc Tryz.prog 69 = some (5, 1, 1) := by kernel_rfl
theorem shp70 : shp Tryz.prog 70 = some (true, 2) := by kernel_rfl
theorem fld70n0 : fld Tryz.prog 70 0 = some (0, false, 1) := by kernel_rfl
theorem fld70n1 : fld Tryz.prog 70 1 = some (1, false, 1) := by kernel_rfl
theorem bok70 : bldOk Tryz.prog 70 = true := by kernel_rfl
theorem zro70 : zro Tryz.prog 70 = some (.agg #[.pointer none, .slice none 0 0]) := by kernel_rfl
theorem shp71 : shp Tryz.prog 71 = some (true, 2) := by kernel_rfl
theorem fld71n0 : fld Tryz.prog 71 0 = some (0, false, 1) := by kernel_rfl
theorem fld71n1 : fld Tryz.prog 71 1 = some (1, false, 1) := by kernel_rfl
theorem bok71 : bldOk Tryz.prog 71 = true := by kernel_rfl
theorem zro71 : zro Tryz.prog 71 = some (.agg #[.pointer none, .slice none 0 0]) := by kernel_rfl
theorem shp72 : shp Tryz.prog 72 = some (false, 1) := by kernel_rfl
theorem zro72 : zro Tryz.prog 72 = some (.map none) := by kernel_rfl
theorem shp75 : shp Tryz.prog 75 = some (false, 1) := by kernel_rfl
theorem zro75 : zro Tryz.prog 75 = some (.nilIface) := by kernel_rfl
theorem shp76 : shp Tryz.prog 76 = some (false, 1) := by kernel_rfl
theorem zro76 : zro Tryz.prog 76 = some (.nilIface) := by kernel_rfl
theorem shp83 : shp Tryz.prog 83 = some (true, 2) := by kernel_rfl
theorem fld83n0 : fld Tryz.prog 83 0 = some (0, false, 1) := by kernel_rfl
theorem fld83n1 : fld Tryz.prog 83 1 = some (1, false, 1) := by kernel_rfl
theorem bok83 : bldOk Tryz.prog 83 = true := by kernel_rfl
theorem sih83 : Tryz.prog.stoodInHeld 83 = false := by kernel_rfl
theorem egt83 : Tryz.prog.eqGuardType Tryz.prog.depth 83 = false := by kernel_rfl
theorem zro83 : zro Tryz.prog 83 = some (.agg #[.int .i64 0, .int .i64 0]) := by kernel_rfl
theorem shp84 : shp Tryz.prog 84 = some (true, 2) := by kernel_rfl
theorem fld84n0 : fld Tryz.prog 84 0 = some (0, false, 1) := by kernel_rfl
theorem fld84n1 : fld Tryz.prog 84 1 = some (1, false, 1) := by kernel_rfl
theorem bok84 : bldOk Tryz.prog 84 = true := by kernel_rfl
theorem sih84 : Tryz.prog.stoodInHeld 84 = false := by kernel_rfl
theorem egt84 : Tryz.prog.eqGuardType Tryz.prog.depth 84 = false := by kernel_rfl
theorem zro84 : zro Tryz.prog 84 = some (.agg #[.int .i64 0, .int .i64 0]) := by kernel_rfl
theorem shp85 : shp Tryz.prog 85 = some (true, 2) := by kernel_rfl
theorem fld85n0 : fld Tryz.prog 85 0 = some (0, false, 1) := by kernel_rfl
theorem fld85n1 : fld Tryz.prog 85 1 = some (1, false, 1) := by kernel_rfl
theorem bok85 : bldOk Tryz.prog 85 = true := by kernel_rfl
theorem sih85 : Tryz.prog.stoodInHeld 85 = false := by kernel_rfl
theorem egt85 : Tryz.prog.eqGuardType Tryz.prog.depth 85 = false := by kernel_rfl
theorem zro85 : zro Tryz.prog 85 = some (.agg #[.slice none 0 0, .int .i64 0]) := by kernel_rfl
theorem shp86 : shp Tryz.prog 86 = some (true, 2) := by kernel_rfl
theorem fld86n0 : fld Tryz.prog 86 0 = some (0, false, 1) := by kernel_rfl
theorem fld86n1 : fld Tryz.prog 86 1 = some (1, false, 1) := by kernel_rfl
theorem bok86 : bldOk Tryz.prog 86 = true := by kernel_rfl
theorem sih86 : Tryz.prog.stoodInHeld 86 = false := by kernel_rfl
theorem egt86 : Tryz.prog.eqGuardType Tryz.prog.depth 86 = false := by kernel_rfl
theorem zro86 : zro Tryz.prog 86 = some (.agg #[.slice none 0 0, .int .i64 0]) := by kernel_rfl
theorem shp97 : shp Tryz.prog 97 = some (false, 1) := by kernel_rfl
theorem zro97 : zro Tryz.prog 97 = some (.pointer none) := by kernel_rfl
theorem shp108 : shp Tryz.prog 108 = some (false, 1) := by kernel_rfl
theorem zro108 : zro Tryz.prog 108 = some (.pointer none) := by kernel_rfl
theorem shp112 : shp Tryz.prog 112 = some (true, 24) := by kernel_rfl
theorem bok112 : bldOk Tryz.prog 112 = false := by kernel_rfl
theorem zro112 : zro Tryz.prog 112 = some (.agg #[.int .u8 0, .int .u8 0, .int .u8 0, .int .u8 0, .int .u8 0, .int .u8 0, .int .u8 0, .int .u8 0, .int .u8 0, .int .u8 0, .int .u8 0, .int .u8 0, .int .u8 0, .int .u8 0, .int .u8 0, .int .u8 0, .int .u8 0, .int .u8 0, .int .u8 0, .int .u8 0, .int .u8 0, .int .u8 0, .int .u8 0, .int .u8 0]) := by kernel_rfl
theorem shp113 : shp Tryz.prog 113 = some (false, 1) := by kernel_rfl
theorem zro113 : zro Tryz.prog 113 = some (.int .u64 0) := by kernel_rfl
theorem shp122 : shp Tryz.prog 122 = some (true, 20) := by kernel_rfl
theorem bok122 : bldOk Tryz.prog 122 = false := by kernel_rfl
theorem zro122 : zro Tryz.prog 122 = some (.agg #[.int .u64 0, .int .u64 0, .int .u64 0, .int .u64 0, .int .u64 0, .int .u64 0, .int .u64 0, .int .u64 0, .int .u64 0, .int .u64 0, .int .u64 0, .int .u64 0, .int .u64 0, .int .u64 0, .int .u64 0, .int .u64 0, .int .u64 0, .int .u64 0, .int .u64 0, .int .u64 0]) := by kernel_rfl
theorem shp123 : shp Tryz.prog 123 = some (false, 1) := by kernel_rfl
theorem zro123 : zro Tryz.prog 123 = some (.int .u32 0) := by kernel_rfl
theorem shp124 : shp Tryz.prog 124 = some (true, 65) := by kernel_rfl
theorem bok124 : bldOk Tryz.prog 124 = false := by kernel_rfl
theorem zro124 : zro Tryz.prog 124 = some (.agg #[.int .u8 0, .int .u8 0, .int .u8 0, .int .u8 0, .int .u8 0, .int .u8 0, .int .u8 0, .int .u8 0, .int .u8 0, .int .u8 0, .int .u8 0, .int .u8 0, .int .u8 0, .int .u8 0, .int .u8 0, .int .u8 0, .int .u8 0, .int .u8 0, .int .u8 0, .int .u8 0, .int .u8 0, .int .u8 0, .int .u8 0, .int .u8 0, .int .u8 0, .int .u8 0, .int .u8 0, .int .u8 0, .int .u8 0, .int .u8 0, .int .u8 0, .int .u8 0, .int .u8 0, .int .u8 0, .int .u8 0, .int .u8 0, .int .u8 0, .int .u8 0, .int .u8 0, .int .u8 0, .int .u8 0, .int .u8 0, .int .u8 0, .int .u8 0, .int .u8 0, .int .u8 0, .int .u8 0, .int .u8 0, .int .u8 0, .int .u8 0, .int .u8 0, .int .u8 0, .int .u8 0, .int .u8 0, .int .u8 0, .int .u8 0, .int .u8 0, .int .u8 0, .int .u8 0, .int .u8 0, .int .u8 0, .int .u8 0, .int .u8 0, .int .u8 0, .int .u8 0]) := by kernel_rfl
theorem shp126 : shp Tryz.prog 126 = some (false, 1) := by kernel_rfl
theorem zro126 : zro Tryz.prog 126 = some (.int .u64 0) := by kernel_rfl
theorem shp132 : shp Tryz.prog 132 = some (true, 32) := by kernel_rfl
theorem bok132 : bldOk Tryz.prog 132 = false := by kernel_rfl
theorem zro132 : zro Tryz.prog 132 = some (.agg #[.int .u8 0, .int .u8 0, .int .u8 0, .int .u8 0, .int .u8 0, .int .u8 0, .int .u8 0, .int .u8 0, .int .u8 0, .int .u8 0, .int .u8 0, .int .u8 0, .int .u8 0, .int .u8 0, .int .u8 0, .int .u8 0, .int .u8 0, .int .u8 0, .int .u8 0, .int .u8 0, .int .u8 0, .int .u8 0, .int .u8 0, .int .u8 0, .int .u8 0, .int .u8 0, .int .u8 0, .int .u8 0, .int .u8 0, .int .u8 0, .int .u8 0, .int .u8 0]) := by kernel_rfl
theorem shp133 : shp Tryz.prog 133 = some (true, 64) := by kernel_rfl
theorem bok133 : bldOk Tryz.prog 133 = false := by kernel_rfl
theorem zro133 : zro Tryz.prog 133 = some (.agg #[.int .u8 0, .int .u8 0, .int .u8 0, .int .u8 0, .int .u8 0, .int .u8 0, .int .u8 0, .int .u8 0, .int .u8 0, .int .u8 0, .int .u8 0, .int .u8 0, .int .u8 0, .int .u8 0, .int .u8 0, .int .u8 0, .int .u8 0, .int .u8 0, .int .u8 0, .int .u8 0, .int .u8 0, .int .u8 0, .int .u8 0, .int .u8 0, .int .u8 0, .int .u8 0, .int .u8 0, .int .u8 0, .int .u8 0, .int .u8 0, .int .u8 0, .int .u8 0, .int .u8 0, .int .u8 0, .int .u8 0, .int .u8 0, .int .u8 0, .int .u8 0, .int .u8 0, .int .u8 0, .int .u8 0, .int .u8 0, .int .u8 0, .int .u8 0, .int .u8 0, .int .u8 0, .int .u8 0, .int .u8 0, .int .u8 0, .int .u8 0, .int .u8 0, .int .u8 0, .int .u8 0, .int .u8 0, .int .u8 0, .int .u8 0, .int .u8 0, .int .u8 0, .int .u8 0, .int .u8 0, .int .u8 0, .int .u8 0, .int .u8 0, .int .u8 0]) := by kernel_rfl
theorem shp134 : shp Tryz.prog 134 = some (true, 4) := by kernel_rfl
theorem fld134n0 : fld Tryz.prog 134 0 = some (0, false, 1) := by kernel_rfl
theorem fld134n1 : fld Tryz.prog 134 1 = some (1, false, 1) := by kernel_rfl
theorem fld134n2 : fld Tryz.prog 134 2 = some (2, false, 1) := by kernel_rfl
theorem fld134n3 : fld Tryz.prog 134 3 = some (3, false, 1) := by kernel_rfl
theorem bok134 : bldOk Tryz.prog 134 = true := by kernel_rfl
theorem zro134 : zro Tryz.prog 134 = some (.agg #[.pointer none, .pointer none, .pointer none, .string ⟨#[]⟩]) := by kernel_rfl
theorem shp135 : shp Tryz.prog 135 = some (true, 4) := by kernel_rfl
theorem fld135n0 : fld Tryz.prog 135 0 = some (0, false, 1) := by kernel_rfl
theorem fld135n1 : fld Tryz.prog 135 1 = some (1, false, 1) := by kernel_rfl
theorem fld135n2 : fld Tryz.prog 135 2 = some (2, false, 1) := by kernel_rfl
theorem fld135n3 : fld Tryz.prog 135 3 = some (3, false, 1) := by kernel_rfl
theorem bok135 : bldOk Tryz.prog 135 = true := by kernel_rfl
theorem zro135 : zro Tryz.prog 135 = some (.agg #[.pointer none, .pointer none, .pointer none, .string ⟨#[]⟩]) := by kernel_rfl
theorem shp136 : shp Tryz.prog 136 = some (true, 0) := by kernel_rfl
theorem bok136 : bldOk Tryz.prog 136 = false := by kernel_rfl
theorem zro136 : zro Tryz.prog 136 = some (.agg #[]) := by kernel_rfl
theorem shp137 : shp Tryz.prog 137 = some (true, 0) := by kernel_rfl
theorem fld137n0 : fld Tryz.prog 137 0 = some (0, true, 0) := by kernel_rfl
theorem bok137 : bldOk Tryz.prog 137 = true := by kernel_rfl
theorem zro137 : zro Tryz.prog 137 = some (.agg #[]) := by kernel_rfl
theorem shp138 : shp Tryz.prog 138 = some (true, 0) := by kernel_rfl
theorem fld138n0 : fld Tryz.prog 138 0 = some (0, true, 0) := by kernel_rfl
theorem bok138 : bldOk Tryz.prog 138 = true := by kernel_rfl
theorem zro138 : zro Tryz.prog 138 = some (.agg #[]) := by kernel_rfl
theorem shp139 : shp Tryz.prog 139 = some (false, 1) := by kernel_rfl
theorem zro139 : zro Tryz.prog 139 = some (.int .u8 0) := by kernel_rfl
theorem shp140 : shp Tryz.prog 140 = some (false, 1) := by kernel_rfl
theorem zro140 : zro Tryz.prog 140 = some (.int .u8 0) := by kernel_rfl
theorem shp142 : shp Tryz.prog 142 = some (false, 1) := by kernel_rfl
theorem zro142 : zro Tryz.prog 142 = some (.int .i32 0) := by kernel_rfl
theorem shp143 : shp Tryz.prog 143 = some (false, 1) := by kernel_rfl
theorem zro143 : zro Tryz.prog 143 = some (.int .i32 0) := by kernel_rfl
theorem shp144 : shp Tryz.prog 144 = some (true, 11) := by kernel_rfl
theorem fld144n0 : fld Tryz.prog 144 0 = some (0, false, 1) := by kernel_rfl
theorem fld144n1 : fld Tryz.prog 144 1 = some (1, false, 1) := by kernel_rfl
theorem fld144n2 : fld Tryz.prog 144 2 = some (2, false, 1) := by kernel_rfl
theorem fld144n3 : fld Tryz.prog 144 3 = some (3, false, 1) := by kernel_rfl
theorem fld144n4 : fld Tryz.prog 144 4 = some (4, false, 1) := by kernel_rfl
theorem fld144n5 : fld Tryz.prog 144 5 = some (5, false, 1) := by kernel_rfl
theorem fld144n6 : fld Tryz.prog 144 6 = some (6, false, 1) := by kernel_rfl
theorem fld144n7 : fld Tryz.prog 144 7 = some (7, false, 1) := by kernel_rfl
theorem fld144n8 : fld Tryz.prog 144 8 = some (8, false, 1) := by kernel_rfl
theorem fld144n9 : fld Tryz.prog 144 9 = some (9, false, 1) := by kernel_rfl
theorem fld144n10 : fld Tryz.prog 144 10 = some (10, false, 1) := by kernel_rfl
theorem bok144 : bldOk Tryz.prog 144 = true := by kernel_rfl
theorem zro144 : zro Tryz.prog 144 = some (.agg #[.int .u64 0, .int .u64 0, .int .u32 0, .int .u8 0, .int .u8 0, .int .u8 0, .int .u8 0, .nilFunc, .pointer none, .int .i32 0, .int .i32 0]) := by kernel_rfl
theorem shp145 : shp Tryz.prog 145 = some (true, 11) := by kernel_rfl
theorem fld145n0 : fld Tryz.prog 145 0 = some (0, false, 1) := by kernel_rfl
theorem fld145n1 : fld Tryz.prog 145 1 = some (1, false, 1) := by kernel_rfl
theorem fld145n2 : fld Tryz.prog 145 2 = some (2, false, 1) := by kernel_rfl
theorem fld145n3 : fld Tryz.prog 145 3 = some (3, false, 1) := by kernel_rfl
theorem fld145n4 : fld Tryz.prog 145 4 = some (4, false, 1) := by kernel_rfl
theorem fld145n5 : fld Tryz.prog 145 5 = some (5, false, 1) := by kernel_rfl
theorem fld145n6 : fld Tryz.prog 145 6 = some (6, false, 1) := by kernel_rfl
theorem fld145n7 : fld Tryz.prog 145 7 = some (7, false, 1) := by kernel_rfl
theorem fld145n8 : fld Tryz.prog 145 8 = some (8, false, 1) := by kernel_rfl
theorem fld145n9 : fld Tryz.prog 145 9 = some (9, false, 1) := by kernel_rfl
theorem fld145n10 : fld Tryz.prog 145 10 = some (10, false, 1) := by kernel_rfl
theorem bok145 : bldOk Tryz.prog 145 = true := by kernel_rfl
theorem zro145 : zro Tryz.prog 145 = some (.agg #[.int .u64 0, .int .u64 0, .int .u32 0, .int .u8 0, .int .u8 0, .int .u8 0, .int .u8 0, .nilFunc, .pointer none, .int .i32 0, .int .i32 0]) := by kernel_rfl
theorem cal2 : callable Tryz.prog 2 = true := by kernel_rfl
theorem cal3 : callable Tryz.prog 3 = true := by kernel_rfl
theorem cal4 : callable Tryz.prog 4 = true := by kernel_rfl
theorem cal5 : callable Tryz.prog 5 = true := by kernel_rfl
theorem cal6 : callable Tryz.prog 6 = true := by kernel_rfl
theorem cal7 : callable Tryz.prog 7 = true := by kernel_rfl
theorem cal8 : callable Tryz.prog 8 = true := by kernel_rfl
theorem cal9 : callable Tryz.prog 9 = true := by kernel_rfl
theorem cal10 : callable Tryz.prog 10 = true := by kernel_rfl
theorem cal11 : callable Tryz.prog 11 = true := by kernel_rfl
theorem cal12 : callable Tryz.prog 12 = true := by kernel_rfl
theorem cal13 : callable Tryz.prog 13 = true := by kernel_rfl
theorem cal14 : callable Tryz.prog 14 = true := by kernel_rfl
theorem cal15 : callable Tryz.prog 15 = true := by kernel_rfl
theorem cal16 : callable Tryz.prog 16 = true := by kernel_rfl
theorem cal17 : callable Tryz.prog 17 = true := by kernel_rfl
theorem cal18 : callable Tryz.prog 18 = true := by kernel_rfl
theorem cal19 : callable Tryz.prog 19 = true := by kernel_rfl
theorem cal20 : callable Tryz.prog 20 = true := by kernel_rfl
theorem cal21 : callable Tryz.prog 21 = true := by kernel_rfl
theorem cal22 : callable Tryz.prog 22 = true := by kernel_rfl
theorem cal23 : callable Tryz.prog 23 = true := by kernel_rfl
theorem cal24 : callable Tryz.prog 24 = true := by kernel_rfl
theorem cal25 : callable Tryz.prog 25 = true := by kernel_rfl
theorem cal26 : callable Tryz.prog 26 = true := by kernel_rfl
theorem cal27 : callable Tryz.prog 27 = true := by kernel_rfl
theorem cal28 : callable Tryz.prog 28 = true := by kernel_rfl
theorem cal29 : callable Tryz.prog 29 = true := by kernel_rfl
theorem cal30 : callable Tryz.prog 30 = true := by kernel_rfl
theorem cal31 : callable Tryz.prog 31 = true := by kernel_rfl
theorem cal32 : callable Tryz.prog 32 = true := by kernel_rfl
theorem cal33 : callable Tryz.prog 33 = true := by kernel_rfl
theorem cal34 : callable Tryz.prog 34 = true := by kernel_rfl
theorem cal35 : callable Tryz.prog 35 = true := by kernel_rfl
theorem cal36 : callable Tryz.prog 36 = true := by kernel_rfl
theorem cal37 : callable Tryz.prog 37 = true := by kernel_rfl
theorem cal38 : callable Tryz.prog 38 = true := by kernel_rfl
theorem cal39 : callable Tryz.prog 39 = true := by kernel_rfl
theorem cal40 : callable Tryz.prog 40 = true := by kernel_rfl
theorem cal41 : callable Tryz.prog 41 = true := by kernel_rfl
theorem cal42 : callable Tryz.prog 42 = true := by kernel_rfl
theorem cal43 : callable Tryz.prog 43 = true := by kernel_rfl
theorem cal44 : callable Tryz.prog 44 = true := by kernel_rfl
theorem cal45 : callable Tryz.prog 45 = true := by kernel_rfl
theorem cal46 : callable Tryz.prog 46 = true := by kernel_rfl
theorem cal47 : callable Tryz.prog 47 = true := by kernel_rfl
theorem cal48 : callable Tryz.prog 48 = true := by kernel_rfl
theorem cal49 : callable Tryz.prog 49 = true := by kernel_rfl
theorem cal50 : callable Tryz.prog 50 = true := by kernel_rfl
theorem cal51 : callable Tryz.prog 51 = true := by kernel_rfl
theorem cal52 : callable Tryz.prog 52 = true := by kernel_rfl
theorem cal53 : callable Tryz.prog 53 = true := by kernel_rfl
theorem cal54 : callable Tryz.prog 54 = true := by kernel_rfl
theorem cal55 : callable Tryz.prog 55 = true := by kernel_rfl
theorem cal56 : callable Tryz.prog 56 = true := by kernel_rfl
theorem cal57 : callable Tryz.prog 57 = true := by kernel_rfl
theorem cal58 : callable Tryz.prog 58 = true := by kernel_rfl
theorem cal59 : callable Tryz.prog 59 = true := by kernel_rfl
theorem cal60 : callable Tryz.prog 60 = true := by kernel_rfl
theorem cal61 : callable Tryz.prog 61 = true := by kernel_rfl
theorem cal62 : callable Tryz.prog 62 = true := by kernel_rfl
theorem cal63 : callable Tryz.prog 63 = true := by kernel_rfl
theorem cal64 : callable Tryz.prog 64 = true := by kernel_rfl
theorem cal65 : callable Tryz.prog 65 = true := by kernel_rfl
theorem cal66 : callable Tryz.prog 66 = true := by kernel_rfl
theorem cal67 : callable Tryz.prog 67 = true := by kernel_rfl
theorem cal68 : callable Tryz.prog 68 = true := by kernel_rfl
theorem cal69 : callable Tryz.prog 69 = true := by kernel_rfl
theorem cal70 : callable Tryz.prog 70 = true := by kernel_rfl
theorem cal71 : callable Tryz.prog 71 = true := by kernel_rfl
theorem cal72 : callable Tryz.prog 72 = true := by kernel_rfl
theorem cal73 : callable Tryz.prog 73 = true := by kernel_rfl
theorem cal74 : callable Tryz.prog 74 = true := by kernel_rfl
theorem cal75 : callable Tryz.prog 75 = true := by kernel_rfl
theorem cal76 : callable Tryz.prog 76 = true := by kernel_rfl
theorem cal77 : callable Tryz.prog 77 = true := by kernel_rfl
theorem cal78 : callable Tryz.prog 78 = true := by kernel_rfl
theorem cal79 : callable Tryz.prog 79 = true := by kernel_rfl
theorem cal80 : callable Tryz.prog 80 = true := by kernel_rfl
theorem cal81 : callable Tryz.prog 81 = true := by kernel_rfl
theorem cal82 : callable Tryz.prog 82 = true := by kernel_rfl
theorem cal83 : callable Tryz.prog 83 = true := by kernel_rfl
theorem cal84 : callable Tryz.prog 84 = true := by kernel_rfl
theorem cal85 : callable Tryz.prog 85 = true := by kernel_rfl
theorem cal86 : callable Tryz.prog 86 = true := by kernel_rfl
theorem cal87 : callable Tryz.prog 87 = true := by kernel_rfl
theorem cal88 : callable Tryz.prog 88 = true := by kernel_rfl
theorem cal89 : callable Tryz.prog 89 = true := by kernel_rfl
theorem cal90 : callable Tryz.prog 90 = true := by kernel_rfl
theorem cal91 : callable Tryz.prog 91 = true := by kernel_rfl
theorem cal92 : callable Tryz.prog 92 = true := by kernel_rfl
theorem cal93 : callable Tryz.prog 93 = true := by kernel_rfl
theorem cal94 : callable Tryz.prog 94 = true := by kernel_rfl
theorem cal95 : callable Tryz.prog 95 = true := by kernel_rfl
theorem cal96 : callable Tryz.prog 96 = true := by kernel_rfl
theorem cal97 : callable Tryz.prog 97 = true := by kernel_rfl
theorem cal99 : callable Tryz.prog 99 = true := by kernel_rfl
theorem cal100 : callable Tryz.prog 100 = true := by kernel_rfl
theorem cal101 : callable Tryz.prog 101 = true := by kernel_rfl
theorem cal102 : callable Tryz.prog 102 = true := by kernel_rfl
theorem cal103 : callable Tryz.prog 103 = true := by kernel_rfl
theorem cal104 : callable Tryz.prog 104 = true := by kernel_rfl
theorem cal105 : callable Tryz.prog 105 = true := by kernel_rfl
theorem cal106 : callable Tryz.prog 106 = true := by kernel_rfl
theorem cal107 : callable Tryz.prog 107 = true := by kernel_rfl
theorem cal108 : callable Tryz.prog 108 = true := by kernel_rfl
theorem cal109 : callable Tryz.prog 109 = true := by kernel_rfl
theorem cal110 : callable Tryz.prog 110 = true := by kernel_rfl
theorem cal111 : callable Tryz.prog 111 = true := by kernel_rfl
theorem cal112 : callable Tryz.prog 112 = true := by kernel_rfl
theorem cal113 : callable Tryz.prog 113 = true := by kernel_rfl
theorem cal114 : callable Tryz.prog 114 = true := by kernel_rfl
theorem cal115 : callable Tryz.prog 115 = true := by kernel_rfl
theorem cal116 : callable Tryz.prog 116 = true := by kernel_rfl
theorem cal117 : callable Tryz.prog 117 = true := by kernel_rfl
theorem cal119 : callable Tryz.prog 119 = true := by kernel_rfl
theorem cal120 : callable Tryz.prog 120 = true := by kernel_rfl
theorem cal121 : callable Tryz.prog 121 = true := by kernel_rfl
theorem cal122 : callable Tryz.prog 122 = true := by kernel_rfl
theorem cal123 : callable Tryz.prog 123 = true := by kernel_rfl
theorem cal124 : callable Tryz.prog 124 = true := by kernel_rfl
theorem cal125 : callable Tryz.prog 125 = true := by kernel_rfl
theorem cal126 : callable Tryz.prog 126 = true := by kernel_rfl
theorem cal127 : callable Tryz.prog 127 = true := by kernel_rfl
theorem cal128 : callable Tryz.prog 128 = true := by kernel_rfl
theorem cal129 : callable Tryz.prog 129 = true := by kernel_rfl
theorem cal130 : callable Tryz.prog 130 = true := by kernel_rfl
theorem cal132 : callable Tryz.prog 132 = true := by kernel_rfl
theorem cal133 : callable Tryz.prog 133 = true := by kernel_rfl
theorem cal134 : callable Tryz.prog 134 = true := by kernel_rfl
theorem cal135 : callable Tryz.prog 135 = true := by kernel_rfl
theorem cal136 : callable Tryz.prog 136 = true := by kernel_rfl
theorem cal159 : callable Tryz.prog 159 = true := by kernel_rfl
theorem cal0 : callable Tryz.prog 0 = false := by kernel_rfl
theorem cal1 : callable Tryz.prog 1 = false := by kernel_rfl
theorem cal98 : callable Tryz.prog 98 = false := by kernel_rfl
theorem cal118 : callable Tryz.prog 118 = false := by kernel_rfl
theorem cal131 : callable Tryz.prog 131 = false := by kernel_rfl
theorem cal137 : callable Tryz.prog 137 = false := by kernel_rfl
theorem cal138 : callable Tryz.prog 138 = false := by kernel_rfl
theorem cal139 : callable Tryz.prog 139 = false := by kernel_rfl
theorem cal140 : callable Tryz.prog 140 = false := by kernel_rfl
theorem cal141 : callable Tryz.prog 141 = false := by kernel_rfl
theorem cal142 : callable Tryz.prog 142 = false := by kernel_rfl
theorem cal143 : callable Tryz.prog 143 = false := by kernel_rfl
theorem cal144 : callable Tryz.prog 144 = false := by kernel_rfl
theorem cal145 : callable Tryz.prog 145 = false := by kernel_rfl
theorem cal146 : callable Tryz.prog 146 = false := by kernel_rfl
theorem cal147 : callable Tryz.prog 147 = false := by kernel_rfl
theorem cal148 : callable Tryz.prog 148 = false := by kernel_rfl
theorem cal149 : callable Tryz.prog 149 = false := by kernel_rfl
theorem cal150 : callable Tryz.prog 150 = false := by kernel_rfl
theorem cal151 : callable Tryz.prog 151 = false := by kernel_rfl
theorem cal152 : callable Tryz.prog 152 = false := by kernel_rfl
theorem cal153 : callable Tryz.prog 153 = false := by kernel_rfl
theorem cal154 : callable Tryz.prog 154 = false := by kernel_rfl
theorem cal155 : callable Tryz.prog 155 = false := by kernel_rfl
theorem cal156 : callable Tryz.prog 156 = false := by kernel_rfl
theorem cal157 : callable Tryz.prog 157 = false := by kernel_rfl
theorem cal158 : callable Tryz.prog 158 = false := by kernel_rfl
theorem tyS0 : type_of% (An @shp2 (An @zro2 (An @shp3 (An @zro3 (An @shp4 (An @zro4 (An @shp5 (An @zro5 (An @shp6 (An @zro6 (An @shp7 (An @fld7n0 (An @fld7n1 (An @fld7n2 (An @fld7n3 (An @bok7 (An @zro7 (An @shp8 (An @fld8n0 (An @fld8n1 (An @fld8n2 (An @fld8n3 (An @bok8 (An @zro8 (An @shp9 (An @zro9 (An @shp10 (An @zro10 (An @shp11 (An @zro11 (An @shp12 (An @zro12 (An @shp13 (An @fld13n0 (An @fld13n1 (An @bok13 (An @zro13 (An @shp14 (An @fld14n0 (An @fld14n1 (An @bok14 (An @zro14 (An @shp15 (An @zro15 (An @shp16 (An @zro16 (An @shp17 (An @zro17 (An @shp18 (An @fld18n0 (An @bok18 (An @zro18 (An @shp19 (An @fld19n0 (An @bok19 (An @zro19 (An @shp20 (An @zro20 (An @shp21 (An @zro21 (An @shp23 (An @zro23 (An @slc23 (An @shp24 (An @zro24 (An @shp29 (An @zro29 (An @slc29 (An @shp30 (An @fld30n0 (An @fld30n1 (An @fld30n2 (An @fld30n3 (An @fld30n4 (An @bok30 (An @sih30 (An @egt30 (An @zro30 (An @shp31 (An @fld31n0 (An @fld31n1 (An @fld31n2 (An @fld31n3 (An @fld31n4 (An @bok31 (An @sih31 (An @egt31 (An @zro31 (An @shp42 (An @fld42n0 (An @fld42n1 (An @fld42n2 (An @fld42n3 (An @bok42 (An @sih42 (An @egt42 (An @zro42 (An @shp43 (An @fld43n0 @fld43n1))))))))))))))))))))))))))))))))))))))))))))))))))))))))))))))))))))))))))))))))))))))))))))))))))) := ⟨@shp2, @zro2, @shp3, @zro3, @shp4, @zro4, @shp5, @zro5, @shp6, @zro6, @shp7, @fld7n0, @fld7n1, @fld7n2, @fld7n3, @bok7, @zro7, @shp8, @fld8n0, @fld8n1, @fld8n2, @fld8n3, @bok8, @zro8, @shp9, @zro9, @shp10, @zro10, @shp11, @zro11, @shp12, @zro12, @shp13, @fld13n0, @fld13n1, @bok13, @zro13, @shp14, @fld14n0, @fld14n1, @bok14, @zro14, @shp15, @zro15, @shp16, @zro16, @shp17, @zro17, @shp18, @fld18n0, @bok18, @zro18, @shp19, @fld19n0, @bok19, @zro19, @shp20, @zro20, @shp21, @zro21, @shp23, @zro23, @slc23, @shp24, @zro24, @shp29, @zro29, @slc29, @shp30, @fld30n0, @fld30n1, @fld30n2, @fld30n3, @fld30n4, @bok30, @sih30, @egt30, @zro30, @shp31, @fld31n0, @fld31n1, @fld31n2, @fld31n3, @fld31n4, @bok31, @sih31, @egt31, @zro31, @shp42, @fld42n0, @fld42n1, @fld42n2, @fld42n3, @bok42, @sih42, @egt42, @zro42, @shp43, @fld43n0, @fld43n1⟩
theorem tyS1 : type_of% (An @fld43n2 (An @fld43n3 (An @bok43 (An @sih43 (An @egt43 (An @zro43 (An @shp46 (An @zro46 (An @shp47 (An @fld47n0 (An @fld47n1 (An @fld47n2 (An @fld47n3 (An @bok47 (An @sih47 (An @egt47 (An @zro47 (An @shp48 (An @fld48n0 (An @fld48n1 (An @fld48n2 (An @fld48n3 (An @bok48 (An @sih48 (An @egt48 (An @zro48 (An @shp49 (An @zro49 (An @shp50 (An @fld50n0 (An @bok50 (An @sih50 (An @egt50 (An @zro50 (An @shp51 (An @fld51n0 (An @bok51 (An @sih51 (An @egt51 (An @zro51 (An @shp55 (An @zro55 (An @slc55 (An @shp58 (An @zro58 (An @shp59 (An @fld59n0 (An @fld59n1 (An @fld59n2 (An @fld59n3 (An @bok59 (An @sih59 (An @egt59 (An @zro59 (An @shp60 (An @fld60n0 (An @fld60n1 (An @fld60n2 (An @fld60n3 (An @bok60 (An @sih60 (An @egt60 (An @zro60 (An @shp68 (An @zro68 (An @shp69 (An @zro69 (An @slc69 (An @shp70 (An @fld70n0 (An @fld70n1 (An @bok70 (An @zro70 (An @shp71 (An @fld71n0 (An @fld71n1 (An @bok71 (An @zro71 (An @shp72 (An @zro72 (An @shp75 (An @zro75 (An @shp76 (An @zro76 (An @shp83 (An @fld83n0 (An @fld83n1 (An @bok83 (An @sih83 (An @egt83 (An @zro83 (An @shp84 (An @fld84n0 (An @fld84n1 (An @bok84 (An @sih84 (An @egt84 (An @zro84 (An @shp85 @fld85n0))))))))))))))))))))))))))))))))))))))))))))))))))))))))))))))))))))))))))))))))))))))))))))))))))) := ⟨@fld43n2, @fld43n3, @bok43, @sih43, @egt43, @zro43, @shp46, @zro46, @shp47, @fld47n0, @fld47n1, @fld47n2, @fld47n3, @bok47, @sih47, @egt47, @zro47, @shp48, @fld48n0, @fld48n1, @fld48n2, @fld48n3, @bok48, @sih48, @egt48, @zro48, @shp49, @zro49, @shp50, @fld50n0, @bok50, @sih50, @egt50, @zro50, @shp51, @fld51n0, @bok51, @sih51, @egt51, @zro51, @shp55, @zro55, @slc55, @shp58, @zro58, @shp59, @fld59n0, @fld59n1, @fld59n2, @fld59n3, @bok59, @sih59, @egt59, @zro59, @shp60, @fld60n0, @fld60n1, @fld60n2, @fld60n3, @bok60, @sih60, @egt60, @zro60, @shp68, @zro68, @shp69, @zro69, @slc69, @shp70, @fld70n0, @fld70n1, @bok70, @zro70, @shp71, @fld71n0, @fld71n1, @bok71, @zro71, @shp72, @zro72, @shp75, @zro75, @shp76, @zro76, @shp83, @fld83n0, @fld83n1, @bok83, @sih83, @egt83, @zro83, @shp84, @fld84n0, @fld84n1, @bok84, @sih84, @egt84, @zro84, @shp85, @fld85n0⟩
theorem tyS2 : type_of% (An @fld85n1 (An @bok85 (An @sih85 (An @egt85 (An @zro85 (An @shp86 (An @fld86n0 (An @fld86n1 (An @bok86 (An @sih86 (An @egt86 (An @zro86 (An @shp97 (An @zro97 (An @shp108 (An @zro108 (An @shp112 (An @bok112 (An @zro112 (An @shp113 (An @zro113 (An @shp122 (An @bok122 (An @zro122 (An @shp123 (An @zro123 (An @shp124 (An @bok124 (An @zro124 (An @shp126 (An @zro126 (An @shp132 (An @bok132 (An @zro132 (An @shp133 (An @bok133 (An @zro133 (An @shp134 (An @fld134n0 (An @fld134n1 (An @fld134n2 (An @fld134n3 (An @bok134 (An @zro134 (An @shp135 (An @fld135n0 (An @fld135n1 (An @fld135n2 (An @fld135n3 (An @bok135 (An @zro135 (An @shp136 (An @bok136 (An @zro136 (An @shp137 (An @fld137n0 (An @bok137 (An @zro137 (An @shp138 (An @fld138n0 (An @bok138 (An @zro138 (An @shp139 (An @zro139 (An @shp140 (An @zro140 (An @shp142 (An @zro142 (An @shp143 (An @zro143 (An @shp144 (An @fld144n0 (An @fld144n1 (An @fld144n2 (An @fld144n3 (An @fld144n4 (An @fld144n5 (An @fld144n6 (An @fld144n7 (An @fld144n8 (An @fld144n9 (An @fld144n10 (An @bok144 (An @zro144 (An @shp145 (An @fld145n0 (An @fld145n1 (An @fld145n2 (An @fld145n3 (An @fld145n4 (An @fld145n5 (An @fld145n6 (An @fld145n7 (An @fld145n8 (An @fld145n9 (An @fld145n10 (An @bok145 (An @zro145 (An @cal2 @cal3))))))))))))))))))))))))))))))))))))))))))))))))))))))))))))))))))))))))))))))))))))))))))))))))))) := ⟨@fld85n1, @bok85, @sih85, @egt85, @zro85, @shp86, @fld86n0, @fld86n1, @bok86, @sih86, @egt86, @zro86, @shp97, @zro97, @shp108, @zro108, @shp112, @bok112, @zro112, @shp113, @zro113, @shp122, @bok122, @zro122, @shp123, @zro123, @shp124, @bok124, @zro124, @shp126, @zro126, @shp132, @bok132, @zro132, @shp133, @bok133, @zro133, @shp134, @fld134n0, @fld134n1, @fld134n2, @fld134n3, @bok134, @zro134, @shp135, @fld135n0, @fld135n1, @fld135n2, @fld135n3, @bok135, @zro135, @shp136, @bok136, @zro136, @shp137, @fld137n0, @bok137, @zro137, @shp138, @fld138n0, @bok138, @zro138, @shp139, @zro139, @shp140, @zro140, @shp142, @zro142, @shp143, @zro143, @shp144, @fld144n0, @fld144n1, @fld144n2, @fld144n3, @fld144n4, @fld144n5, @fld144n6, @fld144n7, @fld144n8, @fld144n9, @fld144n10, @bok144, @zro144, @shp145, @fld145n0, @fld145n1, @fld145n2, @fld145n3, @fld145n4, @fld145n5, @fld145n6, @fld145n7, @fld145n8, @fld145n9, @fld145n10, @bok145, @zro145, @cal2, @cal3⟩
theorem tyS3 : type_of% (An @cal4 (An @cal5 (An @cal6 (An @cal7 (An @cal8 (An @cal9 (An @cal10 (An @cal11 (An @cal12 (An @cal13 (An @cal14 (An @cal15 (An @cal16 (An @cal17 (An @cal18 (An @cal19 (An @cal20 (An @cal21 (An @cal22 (An @cal23 (An @cal24 (An @cal25 (An @cal26 (An @cal27 (An @cal28 (An @cal29 (An @cal30 (An @cal31 (An @cal32 (An @cal33 (An @cal34 (An @cal35 (An @cal36 (An @cal37 (An @cal38 (An @cal39 (An @cal40 (An @cal41 (An @cal42 (An @cal43 (An @cal44 (An @cal45 (An @cal46 (An @cal47 (An @cal48 (An @cal49 (An @cal50 (An @cal51 (An @cal52 (An @cal53 (An @cal54 (An @cal55 (An @cal56 (An @cal57 (An @cal58 (An @cal59 (An @cal60 (An @cal61 (An @cal62 (An @cal63 (An @cal64 (An @cal65 (An @cal66 (An @cal67 (An @cal68 (An @cal69 (An @cal70 (An @cal71 (An @cal72 (An @cal73 (An @cal74 (An @cal75 (An @cal76 (An @cal77 (An @cal78 (An @cal79 (An @cal80 (An @cal81 (An @cal82 (An @cal83 (An @cal84 (An @cal85 (An @cal86 (An @cal87 (An @cal88 (An @cal89 (An @cal90 (An @cal91 (An @cal92 (An @cal93 (An @cal94 (An @cal95 (An @cal96 (An @cal97 (An @cal99 (An @cal100 (An @cal101 (An @cal102 (An @cal103 @cal104))))))))))))))))))))))))))))))))))))))))))))))))))))))))))))))))))))))))))))))))))))))))))))))))))) := ⟨@cal4, @cal5, @cal6, @cal7, @cal8, @cal9, @cal10, @cal11, @cal12, @cal13, @cal14, @cal15, @cal16, @cal17, @cal18, @cal19, @cal20, @cal21, @cal22, @cal23, @cal24, @cal25, @cal26, @cal27, @cal28, @cal29, @cal30, @cal31, @cal32, @cal33, @cal34, @cal35, @cal36, @cal37, @cal38, @cal39, @cal40, @cal41, @cal42, @cal43, @cal44, @cal45, @cal46, @cal47, @cal48, @cal49, @cal50, @cal51, @cal52, @cal53, @cal54, @cal55, @cal56, @cal57, @cal58, @cal59, @cal60, @cal61, @cal62, @cal63, @cal64, @cal65, @cal66, @cal67, @cal68, @cal69, @cal70, @cal71, @cal72, @cal73, @cal74, @cal75, @cal76, @cal77, @cal78, @cal79, @cal80, @cal81, @cal82, @cal83, @cal84, @cal85, @cal86, @cal87, @cal88, @cal89, @cal90, @cal91, @cal92, @cal93, @cal94, @cal95, @cal96, @cal97, @cal99, @cal100, @cal101, @cal102, @cal103, @cal104⟩
theorem tyS4 : type_of% (An @cal105 (An @cal106 (An @cal107 (An @cal108 (An @cal109 (An @cal110 (An @cal111 (An @cal112 (An @cal113 (An @cal114 (An @cal115 (An @cal116 (An @cal117 (An @cal119 (An @cal120 (An @cal121 (An @cal122 (An @cal123 (An @cal124 (An @cal125 (An @cal126 (An @cal127 (An @cal128 (An @cal129 (An @cal130 (An @cal132 (An @cal133 (An @cal134 (An @cal135 (An @cal136 (An @cal159 (An @cal0 (An @cal1 (An @cal98 (An @cal118 (An @cal131 (An @cal137 (An @cal138 (An @cal139 (An @cal140 (An @cal141 (An @cal142 (An @cal143 (An @cal144 (An @cal145 (An @cal146 (An @cal147 (An @cal148 (An @cal149 (An @cal150 (An @cal151 (An @cal152 (An @cal153 (An @cal154 (An @cal155 (An @cal156 (An @cal157 (An @cal158 (An @Tryz.underlying2 (An @Tryz.underlying3 (An @Tryz.underlying4 (An @Tryz.underlying5 (An @Tryz.underlying6 (An @Tryz.underlying7 (An @Tryz.underlying8 (An @Tryz.underlying9 (An @Tryz.underlying10 (An @Tryz.underlying11 (An @Tryz.underlying12 (An @Tryz.underlying13 (An @Tryz.underlying14 (An @Tryz.underlying15 (An @Tryz.underlying16 (An @Tryz.underlying17 (An @Tryz.underlying18 (An @Tryz.underlying19 (An @Tryz.underlying21 (An @Tryz.underlying23 (An @Tryz.underlying24 (An @Tryz.underlying29 (An @Tryz.underlying30 (An @Tryz.underlying31 (An @Tryz.underlying42 (An @Tryz.underlying43 (An @Tryz.underlying46 (An @Tryz.underlying47 (An @Tryz.underlying48 (An @Tryz.underlying49 (An @Tryz.underlying50 (An @Tryz.underlying51 (An @Tryz.underlying55 (An @Tryz.underlying58 (An @Tryz.underlying59 (An @Tryz.underlying60 (An @Tryz.underlying68 (An @Tryz.underlying69 (An @Tryz.underlying70 (An @Tryz.underlying71 (An @Tryz.underlying72 @Tryz.underlying83))))))))))))))))))))))))))))))))))))))))))))))))))))))))))))))))))))))))))))))))))))))))))))))))))) := ⟨@cal105, @cal106, @cal107, @cal108, @cal109, @cal110, @cal111, @cal112, @cal113, @cal114, @cal115, @cal116, @cal117, @cal119, @cal120, @cal121, @cal122, @cal123, @cal124, @cal125, @cal126, @cal127, @cal128, @cal129, @cal130, @cal132, @cal133, @cal134, @cal135, @cal136, @cal159, @cal0, @cal1, @cal98, @cal118, @cal131, @cal137, @cal138, @cal139, @cal140, @cal141, @cal142, @cal143, @cal144, @cal145, @cal146, @cal147, @cal148, @cal149, @cal150, @cal151, @cal152, @cal153, @cal154, @cal155, @cal156, @cal157, @cal158, @Tryz.underlying2, @Tryz.underlying3, @Tryz.underlying4, @Tryz.underlying5, @Tryz.underlying6, @Tryz.underlying7, @Tryz.underlying8, @Tryz.underlying9, @Tryz.underlying10, @Tryz.underlying11, @Tryz.underlying12, @Tryz.underlying13, @Tryz.underlying14, @Tryz.underlying15, @Tryz.underlying16, @Tryz.underlying17, @Tryz.underlying18, @Tryz.underlying19, @Tryz.underlying21, @Tryz.underlying23, @Tryz.underlying24, @Tryz.underlying29, @Tryz.underlying30, @Tryz.underlying31, @Tryz.underlying42, @Tryz.underlying43, @Tryz.underlying46, @Tryz.underlying47, @Tryz.underlying48, @Tryz.underlying49, @Tryz.underlying50, @Tryz.underlying51, @Tryz.underlying55, @Tryz.underlying58, @Tryz.underlying59, @Tryz.underlying60, @Tryz.underlying68, @Tryz.underlying69, @Tryz.underlying70, @Tryz.underlying71, @Tryz.underlying72, @Tryz.underlying83⟩
theorem tyS5 : type_of% (An @Tryz.underlying84 (An @Tryz.underlying85 (An @Tryz.underlying86 (An @Tryz.underlying97 (An @Tryz.underlying108 (An @Tryz.underlying112 (An @Tryz.underlying113 (An @Tryz.underlying122 (An @Tryz.underlying123 (An @Tryz.underlying124 (An @Tryz.underlying126 (An @Tryz.underlying132 (An @Tryz.underlying133 (An @Tryz.underlying134 (An @Tryz.underlying135 (An @Tryz.underlying136 (An @Tryz.underlying137 (An @Tryz.underlying138 (An @Tryz.underlying139 (An @Tryz.underlying140 (An @Tryz.underlying142 (An @Tryz.underlying143 (An @Tryz.underlying144 (An @Tryz.underlying145 (An @Tryz.results2 (An @Tryz.results3 (An @Tryz.results4 (An @Tryz.results5 (An @Tryz.results6 (An @Tryz.results7 (An @Tryz.results8 (An @Tryz.results9 (An @Tryz.results10 (An @Tryz.results11 (An @Tryz.results12 (An @Tryz.results13 (An @Tryz.results14 (An @Tryz.results15 (An @Tryz.results16 (An @Tryz.results17 (An @Tryz.results18 (An @Tryz.results19 (An @Tryz.results20 (An @Tryz.results21 (An @Tryz.results22 (An @Tryz.results23 (An @Tryz.results24 (An @Tryz.results25 (An @Tryz.results26 (An @Tryz.results27 (An @Tryz.results28 (An @Tryz.results29 (An @Tryz.results30 (An @Tryz.results31 (An @Tryz.results32 (An @Tryz.results33 (An @Tryz.results34 (An @Tryz.results35 (An @Tryz.results36 (An @Tryz.results37 (An @Tryz.results38 (An @Tryz.results39 (An @Tryz.results40 (An @Tryz.results41 (An @Tryz.results42 (An @Tryz.results43 (An @Tryz.results44 (An @Tryz.results45 (An @Tryz.results46 (An @Tryz.results47 (An @Tryz.results48 (An @Tryz.results49 (An @Tryz.results50 (An @Tryz.results51 (An @Tryz.results52 (An @Tryz.results53 (An @Tryz.results54 (An @Tryz.results55 (An @Tryz.results56 (An @Tryz.results57 (An @Tryz.results58 (An @Tryz.results59 (An @Tryz.results60 (An @Tryz.results61 (An @Tryz.results62 (An @Tryz.results63 (An @Tryz.results64 (An @Tryz.results65 (An @Tryz.results66 (An @Tryz.results67 (An @Tryz.results68 (An @Tryz.results69 (An @Tryz.results70 (An @Tryz.results71 (An @Tryz.results72 (An @Tryz.results73 (An @Tryz.results74 (An @Tryz.results75 (An @Tryz.results76 @Tryz.results77))))))))))))))))))))))))))))))))))))))))))))))))))))))))))))))))))))))))))))))))))))))))))))))))))) := ⟨@Tryz.underlying84, @Tryz.underlying85, @Tryz.underlying86, @Tryz.underlying97, @Tryz.underlying108, @Tryz.underlying112, @Tryz.underlying113, @Tryz.underlying122, @Tryz.underlying123, @Tryz.underlying124, @Tryz.underlying126, @Tryz.underlying132, @Tryz.underlying133, @Tryz.underlying134, @Tryz.underlying135, @Tryz.underlying136, @Tryz.underlying137, @Tryz.underlying138, @Tryz.underlying139, @Tryz.underlying140, @Tryz.underlying142, @Tryz.underlying143, @Tryz.underlying144, @Tryz.underlying145, @Tryz.results2, @Tryz.results3, @Tryz.results4, @Tryz.results5, @Tryz.results6, @Tryz.results7, @Tryz.results8, @Tryz.results9, @Tryz.results10, @Tryz.results11, @Tryz.results12, @Tryz.results13, @Tryz.results14, @Tryz.results15, @Tryz.results16, @Tryz.results17, @Tryz.results18, @Tryz.results19, @Tryz.results20, @Tryz.results21, @Tryz.results22, @Tryz.results23, @Tryz.results24, @Tryz.results25, @Tryz.results26, @Tryz.results27, @Tryz.results28, @Tryz.results29, @Tryz.results30, @Tryz.results31, @Tryz.results32, @Tryz.results33, @Tryz.results34, @Tryz.results35, @Tryz.results36, @Tryz.results37, @Tryz.results38, @Tryz.results39, @Tryz.results40, @Tryz.results41, @Tryz.results42, @Tryz.results43, @Tryz.results44, @Tryz.results45, @Tryz.results46, @Tryz.results47, @Tryz.results48, @Tryz.results49, @Tryz.results50, @Tryz.results51, @Tryz.results52, @Tryz.results53, @Tryz.results54, @Tryz.results55, @Tryz.results56, @Tryz.results57, @Tryz.results58, @Tryz.results59, @Tryz.results60, @Tryz.results61, @Tryz.results62, @Tryz.results63, @Tryz.results64, @Tryz.results65, @Tryz.results66, @Tryz.results67, @Tryz.results68, @Tryz.results69, @Tryz.results70, @Tryz.results71, @Tryz.results72, @Tryz.results73, @Tryz.results74, @Tryz.results75, @Tryz.results76, @Tryz.results77⟩
theorem tyS6 : type_of% (An @Tryz.results78 (An @Tryz.results79 (An @Tryz.results80 (An @Tryz.results81 (An @Tryz.results82 (An @Tryz.results83 (An @Tryz.results84 (An @Tryz.results85 (An @Tryz.results86 (An @Tryz.results87 (An @Tryz.results88 (An @Tryz.results89 (An @Tryz.results90 (An @Tryz.results91 (An @Tryz.results92 (An @Tryz.results93 (An @Tryz.results94 (An @Tryz.results95 (An @Tryz.results96 (An @Tryz.results97 (An @Tryz.results99 (An @Tryz.results100 (An @Tryz.results101 (An @Tryz.results102 (An @Tryz.results103 (An @Tryz.results104 (An @Tryz.results105 (An @Tryz.results106 (An @Tryz.results107 (An @Tryz.results108 (An @Tryz.results109 (An @Tryz.results110 (An @Tryz.results111 (An @Tryz.results112 (An @Tryz.results113 (An @Tryz.results114 (An @Tryz.results115 (An @Tryz.results116 (An @Tryz.results117 (An @Tryz.results119 (An @Tryz.results120 (An @Tryz.results121 (An @Tryz.results122 (An @Tryz.results123 (An @Tryz.results124 (An @Tryz.results125 (An @Tryz.results126 (An @Tryz.results127 (An @Tryz.results128 (An @Tryz.results129 (An @Tryz.results130 (An @Tryz.results132 (An @Tryz.results133 (An @Tryz.results134 (An @Tryz.results135 (An @Tryz.results136 @Tryz.results159)))))))))))))))))))))))))))))))))))))))))))))))))))))))) := ⟨@Tryz.results78, @Tryz.results79, @Tryz.results80, @Tryz.results81, @Tryz.results82, @Tryz.results83, @Tryz.results84, @Tryz.results85, @Tryz.results86, @Tryz.results87, @Tryz.results88, @Tryz.results89, @Tryz.results90, @Tryz.results91, @Tryz.results92, @Tryz.results93, @Tryz.results94, @Tryz.results95, @Tryz.results96, @Tryz.results97, @Tryz.results99, @Tryz.results100, @Tryz.results101, @Tryz.results102, @Tryz.results103, @Tryz.results104, @Tryz.results105, @Tryz.results106, @Tryz.results107, @Tryz.results108, @Tryz.results109, @Tryz.results110, @Tryz.results111, @Tryz.results112, @Tryz.results113, @Tryz.results114, @Tryz.results115, @Tryz.results116, @Tryz.results117, @Tryz.results119, @Tryz.results120, @Tryz.results121, @Tryz.results122, @Tryz.results123, @Tryz.results124, @Tryz.results125, @Tryz.results126, @Tryz.results127, @Tryz.results128, @Tryz.results129, @Tryz.results130, @Tryz.results132, @Tryz.results133, @Tryz.results134, @Tryz.results135, @Tryz.results136, @Tryz.results159⟩
theorem tyS : type_of% (An @tyS0 (An @tyS1 (An @tyS2 (An @tyS3 (An @tyS4 (An @tyS5 @tyS6)))))) := ⟨@tyS0, @tyS1, @tyS2, @tyS3, @tyS4, @tyS5, @tyS6⟩
end Go.Proofs.YtgglccpckhpocaaGreatDoor
