/-
Closed facts on the types and functions of this translation.
Conditions: none.
-/
import Derived.Test.YtgglccpckhpocaaGreatDoorProg
import Derived.Test.YtgglccpckhpocaaGreatDoorVmEq
import Derived.KernelRfl
set_option linter.unusedSimpArgs false
set_option linter.unusedVariables false
namespace Go.Proofs.YtgglccpckhpocaaGreatDoor
open Go.Vm
set_option maxRecDepth 100000
theorem shp2 : shp Tryz.prog 2 = some (false, 1) := by kernel_rfl
theorem zro2 : zro Tryz.prog 2 = some (.int .i64 0) := by kernel_rfl
theorem shp3 : shp Tryz.prog 3 = some (false, 1) := by kernel_rfl
theorem zro3 : zro Tryz.prog 3 = some (.int .i64 0) := by kernel_rfl
theorem shp4 : shp Tryz.prog 4 = some (false, 1) := by kernel_rfl
theorem zro4 : zro Tryz.prog 4 = some (.bool false) := by kernel_rfl
theorem shp5 : shp Tryz.prog 5 = some (false, 1) := by kernel_rfl
theorem zro5 : zro Tryz.prog 5 = some (.int .u8 0) := by kernel_rfl
theorem shp6 : shp Tryz.prog 6 = some (false, 1) := by kernel_rfl
theorem zro6 : zro Tryz.prog 6 = some (.int .u8 0) := by kernel_rfl
theorem shp7 : shp Tryz.prog 7 = some (true, 4) := by kernel_rfl
theorem fld7n0 : fld Tryz.prog 7 0 = some (0, false, 1) := by kernel_rfl
theorem fld7n1 : fld Tryz.prog 7 1 = some (1, false, 1) := by kernel_rfl
theorem fld7n2 : fld Tryz.prog 7 2 = some (2, false, 1) := by kernel_rfl
theorem fld7n3 : fld Tryz.prog 7 3 = some (3, false, 1) := by kernel_rfl
theorem bok7 : bldOk Tryz.prog 7 = true := by kernel_rfl
theorem zro7 : zro Tryz.prog 7 = some (.agg #[.int .i64 0, .int .i64 0, .bool false, .int .u8 0]) := by kernel_rfl
theorem shp8 : shp Tryz.prog 8 = some (true, 4) := by kernel_rfl
theorem fld8n0 : fld Tryz.prog 8 0 = some (0, false, 1) := by kernel_rfl
theorem fld8n1 : fld Tryz.prog 8 1 = some (1, false, 1) := by kernel_rfl
theorem fld8n2 : fld Tryz.prog 8 2 = some (2, false, 1) := by kernel_rfl
theorem fld8n3 : fld Tryz.prog 8 3 = some (3, false, 1) := by kernel_rfl
theorem bok8 : bldOk Tryz.prog 8 = true := by kernel_rfl
theorem zro8 : zro Tryz.prog 8 = some (.agg #[.int .i64 0, .int .i64 0, .bool false, .int .u8 0]) := by kernel_rfl
theorem shp9 : shp Tryz.prog 9 = some (false, 1) := by kernel_rfl
theorem zro9 : zro Tryz.prog 9 = some (.string ⟨#[]⟩) := by kernel_rfl
theorem shp10 : shp Tryz.prog 10 = some (false, 1) := by kernel_rfl
theorem zro10 : zro Tryz.prog 10 = some (.string ⟨#[]⟩) := by kernel_rfl
theorem shp11 : shp Tryz.prog 11 = some (false, 1) := by kernel_rfl
theorem zro11 : zro Tryz.prog 11 = some (.string ⟨#[]⟩) := by kernel_rfl
theorem shp12 : shp Tryz.prog 12 = some (false, 1) := by kernel_rfl
theorem zro12 : zro Tryz.prog 12 = some (.int .u64 0) := by kernel_rfl
theorem shp13 : shp Tryz.prog 13 = some (true, 2) := by kernel_rfl
theorem fld13n0 : fld Tryz.prog 13 0 = some (0, false, 1) := by kernel_rfl
theorem fld13n1 : fld Tryz.prog 13 1 = some (1, false, 1) := by kernel_rfl
theorem bok13 : bldOk Tryz.prog 13 = true := by kernel_rfl
theorem zro13 : zro Tryz.prog 13 = some (.agg #[.string ⟨#[]⟩, .int .u64 0]) := by kernel_rfl
theorem shp14 : shp Tryz.prog 14 = some (true, 2) := by kernel_rfl
theorem fld14n0 : fld Tryz.prog 14 0 = some (0, false, 1) := by kernel_rfl
theorem fld14n1 : fld Tryz.prog 14 1 = some (1, false, 1) := by kernel_rfl
theorem bok14 : bldOk Tryz.prog 14 = true := by kernel_rfl
theorem zro14 : zro Tryz.prog 14 = some (.agg #[.string ⟨#[]⟩, .int .u64 0]) := by kernel_rfl
theorem shp15 : shp Tryz.prog 15 = some (false, 1) := by kernel_rfl
theorem zro15 : zro Tryz.prog 15 = some (.pointer none) := by kernel_rfl
theorem shp16 : shp Tryz.prog 16 = some (false, 1) := by kernel_rfl
theorem zro16 : zro Tryz.prog 16 = some (.pointer none) := by kernel_rfl
theorem shp17 : shp Tryz.prog 17 = some (false, 1) := by kernel_rfl
theorem zro17 : zro Tryz.prog 17 = some (.pointer none) := by kernel_rfl
theorem shp18 : shp Tryz.prog 18 = some (true, 1) := by kernel_rfl
theorem fld18n0 : fld Tryz.prog 18 0 = some (0, false, 1) := by kernel_rfl
theorem bok18 : bldOk Tryz.prog 18 = true := by kernel_rfl
theorem zro18 : zro Tryz.prog 18 = some (.agg #[.pointer none]) := by kernel_rfl
theorem shp19 : shp Tryz.prog 19 = some (true, 1) := by kernel_rfl
theorem fld19n0 : fld Tryz.prog 19 0 = some (0, false, 1) := by kernel_rfl
theorem bok19 : bldOk Tryz.prog 19 = true := by kernel_rfl
theorem zro19 : zro Tryz.prog 19 = some (.agg #[.pointer none]) := by kernel_rfl
theorem shp20 : shp Tryz.prog 20 = some (false, 1) := by kernel_rfl
theorem zro20 : zro Tryz.prog 20 = some (.nilIface) := by kernel_rfl
theorem shp21 : shp Tryz.prog 21 = some (false, 1) := by kernel_rfl
theorem zro21 : zro Tryz.prog 21 = some (.int .i32 0) := by kernel_rfl
theorem shp23 : shp Tryz.prog 23 = some (false, 1) := by kernel_rfl
theorem zro23 : zro Tryz.prog 23 = some (.slice none 0 0) := by kernel_rfl
theorem slc23 : slc Tryz.prog 23 = some (43, 8, 104) := by kernel_rfl
theorem shp24 : shp Tryz.prog 24 = some (false, 1) := by kernel_rfl
theorem zro24 : zro Tryz.prog 24 = some (.int .i64 0) := by kernel_rfl
theorem shp29 : shp Tryz.prog 29 = some (false, 1) := by kernel_rfl
theorem zro29 : zro Tryz.prog 29 = some (.slice none 0 0) := by kernel_rfl
theorem slc29 : slc Tryz.prog 29 = some (31, 5, 72) := by kernel_rfl
theorem shp30 : shp Tryz.prog 30 = some (true, 5) := by kernel_rfl
theorem fld30n0 : fld Tryz.prog 30 0 = some (0, false, 1) := by kernel_rfl
theorem fld30n1 : fld Tryz.prog 30 1 = some (1, false, 1) := by kernel_rfl
theorem fld30n2 : fld Tryz.prog 30 2 = some (2, false, 1) := by kernel_rfl
theorem fld30n3 : fld Tryz.prog 30 3 = some (3, false, 1) := by kernel_rfl
theorem fld30n4 : fld Tryz.prog 30 4 = some (4, false, 1) := by kernel_rfl
theorem bok30 : bldOk Tryz.prog 30 = true := by kernel_rfl
theorem sih30 : Tryz.prog.stoodInHeld 30 = false := by kernel_rfl
theorem egt30 : Tryz.prog.eqGuardType Tryz.prog.depth 30 = false := by kernel_rfl
theorem zro30 : zro Tryz.prog 30 = some (.agg #[.int .i64 0, .string ⟨#[]⟩, .string ⟨#[]⟩, .int .i64 0, .slice none 0 0]) := by kernel_rfl
theorem shp31 : shp Tryz.prog 31 = some (true, 5) := by kernel_rfl
theorem fld31n0 : fld Tryz.prog 31 0 = some (0, false, 1) := by kernel_rfl
theorem fld31n1 : fld Tryz.prog 31 1 = some (1, false, 1) := by kernel_rfl
theorem fld31n2 : fld Tryz.prog 31 2 = some (2, false, 1) := by kernel_rfl
theorem fld31n3 : fld Tryz.prog 31 3 = some (3, false, 1) := by kernel_rfl
theorem fld31n4 : fld Tryz.prog 31 4 = some (4, false, 1) := by kernel_rfl
theorem bok31 : bldOk Tryz.prog 31 = true := by kernel_rfl
theorem sih31 : Tryz.prog.stoodInHeld 31 = false := by kernel_rfl
theorem egt31 : Tryz.prog.eqGuardType Tryz.prog.depth 31 = false := by kernel_rfl
theorem zro31 : zro Tryz.prog 31 = some (.agg #[.int .i64 0, .string ⟨#[]⟩, .string ⟨#[]⟩, .int .i64 0, .slice none 0 0]) := by kernel_rfl
theorem shp42 : shp Tryz.prog 42 = some (true, 8) := by kernel_rfl
theorem fld42n0 : fld Tryz.prog 42 0 = some (0, false, 1) := by kernel_rfl
theorem fld42n1 : fld Tryz.prog 42 1 = some (1, true, 5) := by kernel_rfl
theorem fld42n2 : fld Tryz.prog 42 2 = some (6, false, 1) := by kernel_rfl
theorem fld42n3 : fld Tryz.prog 42 3 = some (7, false, 1) := by kernel_rfl
theorem bok42 : bldOk Tryz.prog 42 = true := by kernel_rfl
theorem sih42 : Tryz.prog.stoodInHeld 42 = false := by kernel_rfl
theorem egt42 : Tryz.prog.eqGuardType Tryz.prog.depth 42 = false := by kernel_rfl
theorem zro42 : zro Tryz.prog 42 = some (.agg #[.string ⟨#[]⟩, .int .i64 0, .string ⟨#[]⟩, .string ⟨#[]⟩, .int .i64 0, .slice none 0 0, .int .i64 0, .int .i64 0]) := by kernel_rfl
theorem shp43 : shp Tryz.prog 43 = some (true, 8) := by kernel_rfl
theorem fld43n0 : fld Tryz.prog 43 0 = some (0, false, 1) := by kernel_rfl
theorem fld43n1 : fld Tryz.prog 43 1 = some (1, true, 5) := by kernel_rfl
theorem fld43n2 : fld Tryz.prog 43 2 = some (6, false, 1) := by kernel_rfl
theorem fld43n3 : fld Tryz.prog 43 3 = some (7, false, 1) := by kernel_rfl
theorem bok43 : bldOk Tryz.prog 43 = true := by kernel_rfl
theorem sih43 : Tryz.prog.stoodInHeld 43 = false := by kernel_rfl
theorem egt43 : Tryz.prog.eqGuardType Tryz.prog.depth 43 = false := by kernel_rfl
theorem zro43 : zro Tryz.prog 43 = some (.agg #[.string ⟨#[]⟩, .int .i64 0, .string ⟨#[]⟩, .string ⟨#[]⟩, .int .i64 0, .slice none 0 0, .int .i64 0, .int .i64 0]) := by kernel_rfl
theorem shp46 : shp Tryz.prog 46 = some (false, 1) := by kernel_rfl
theorem zro46 : zro Tryz.prog 46 = some (.pointer none) := by kernel_rfl
theorem shp47 : shp Tryz.prog 47 = some (true, 4) := by kernel_rfl
theorem fld47n0 : fld Tryz.prog 47 0 = some (0, false, 1) := by kernel_rfl
theorem fld47n1 : fld Tryz.prog 47 1 = some (1, false, 1) := by kernel_rfl
theorem fld47n2 : fld Tryz.prog 47 2 = some (2, false, 1) := by kernel_rfl
theorem fld47n3 : fld Tryz.prog 47 3 = some (3, false, 1) := by kernel_rfl
theorem bok47 : bldOk Tryz.prog 47 = true := by kernel_rfl
theorem sih47 : Tryz.prog.stoodInHeld 47 = false := by kernel_rfl
theorem egt47 : Tryz.prog.eqGuardType Tryz.prog.depth 47 = false := by kernel_rfl
theorem zro47 : zro Tryz.prog 47 = some (.agg #[.int .i64 0, .string ⟨#[]⟩, .int .i64 0, .int .i64 0]) := by kernel_rfl
theorem shp48 : shp Tryz.prog 48 = some (true, 4) := by kernel_rfl
theorem fld48n0 : fld Tryz.prog 48 0 = some (0, false, 1) := by kernel_rfl
theorem fld48n1 : fld Tryz.prog 48 1 = some (1, false, 1) := by kernel_rfl
theorem fld48n2 : fld Tryz.prog 48 2 = some (2, false, 1) := by kernel_rfl
theorem fld48n3 : fld Tryz.prog 48 3 = some (3, false, 1) := by kernel_rfl
theorem bok48 : bldOk Tryz.prog 48 = true := by kernel_rfl
theorem sih48 : Tryz.prog.stoodInHeld 48 = false := by kernel_rfl
theorem egt48 : Tryz.prog.eqGuardType Tryz.prog.depth 48 = false := by kernel_rfl
theorem zro48 : zro Tryz.prog 48 = some (.agg #[.int .i64 0, .string ⟨#[]⟩, .int .i64 0, .int .i64 0]) := by kernel_rfl
theorem shp49 : shp Tryz.prog 49 = some (false, 1) := by kernel_rfl
theorem zro49 : zro Tryz.prog 49 = some (.pointer none) := by kernel_rfl
theorem shp50 : shp Tryz.prog 50 = some (true, 1) := by kernel_rfl
theorem fld50n0 : fld Tryz.prog 50 0 = some (0, false, 1) := by kernel_rfl
theorem bok50 : bldOk Tryz.prog 50 = true := by kernel_rfl
theorem sih50 : Tryz.prog.stoodInHeld 50 = false := by kernel_rfl
theorem egt50 : Tryz.prog.eqGuardType Tryz.prog.depth 50 = false := by kernel_rfl
theorem zro50 : zro Tryz.prog 50 = some (.agg #[.pointer none]) := by kernel_rfl
theorem shp51 : shp Tryz.prog 51 = some (true, 1) := by kernel_rfl
theorem fld51n0 : fld Tryz.prog 51 0 = some (0, false, 1) := by kernel_rfl
theorem bok51 : bldOk Tryz.prog 51 = true := by kernel_rfl
theorem sih51 : Tryz.prog.stoodInHeld 51 = false := by kernel_rfl
theorem egt51 : Tryz.prog.eqGuardType Tryz.prog.depth 51 = false := by kernel_rfl
theorem zro51 : zro Tryz.prog 51 = some (.agg #[.pointer none]) := by kernel_rfl
theorem shp55 : shp Tryz.prog 55 = some (false, 1) := by kernel_rfl
theorem zro55 : zro Tryz.prog 55 = some (.slice none 0 0) := by kernel_rfl
theorem slc55 : slc Tryz.prog 55 = some (48, 4, 40) := by kernel_rfl
theorem shp58 : shp Tryz.prog 58 = some (false, 1) := by kernel_rfl
theorem zro58 : zro Tryz.prog 58 = some (.pointer none) := by kernel_rfl
theorem shp59 : shp Tryz.prog 59 = some (true, 4) := by kernel_rfl
theorem fld59n0 : fld Tryz.prog 59 0 = some (0, false, 1) := by kernel_rfl
theorem fld59n1 : fld Tryz.prog 59 1 = some (1, false, 1) := by kernel_rfl
theorem fld59n2 : fld Tryz.prog 59 2 = some (2, false, 1) := by kernel_rfl
theorem fld59n3 : fld Tryz.prog 59 3 = some (3, false, 1) := by kernel_rfl
theorem bok59 : bldOk Tryz.prog 59 = true := by kernel_rfl
theorem sih59 : Tryz.prog.stoodInHeld 59 = false := by kernel_rfl
theorem egt59 : Tryz.prog.eqGuardType Tryz.prog.depth 59 = false := by kernel_rfl
theorem zro59 : zro Tryz.prog 59 = some (.agg #[.slice none 0 0, .int .i64 0, .int .i64 0, .int .i64 0]) := by kernel_rfl
theorem shp60 : shp Tryz.prog 60 = some (true, 4) := by kernel_rfl
theorem fld60n0 : fld Tryz.prog 60 0 = some (0, false, 1) := by kernel_rfl
theorem fld60n1 : fld Tryz.prog 60 1 = some (1, false, 1) := by kernel_rfl
theorem fld60n2 : fld Tryz.prog 60 2 = some (2, false, 1) := by kernel_rfl
theorem fld60n3 : fld Tryz.prog 60 3 = some (3, false, 1) := by kernel_rfl
theorem bok60 : bldOk Tryz.prog 60 = true := by kernel_rfl
theorem sih60 : Tryz.prog.stoodInHeld 60 = false := by kernel_rfl
theorem egt60 : Tryz.prog.eqGuardType Tryz.prog.depth 60 = false := by kernel_rfl
theorem zro60 : zro Tryz.prog 60 = some (.agg #[.slice none 0 0, .int .i64 0, .int .i64 0, .int .i64 0]) := by kernel_rfl
theorem shp68 : shp Tryz.prog 68 = some (false, 1) := by kernel_rfl
theorem zro68 : zro Tryz.prog 68 = some (.pointer none) := by kernel_rfl
theorem shp69 : shp Tryz.prog 69 = some (false, 1) := by kernel_rfl
theorem zro69 : zro Tryz.prog 69 = some (.slice none 0 0) := by kernel_rfl
theorem slc69 : slc Tryz.prog 69 = some (5, 1, 1) := by kernel_rfl
theorem shp70 : shp Tryz.prog 70 = some (true, 2) := by kernel_rfl
theorem fld70n0 : fld Tryz.prog 70 0 = some (0, false, 1) := by kernel_rfl
theorem fld70n1 : fld Tryz.prog 70 1 = some (1, false, 1) := by kernel_rfl
theorem bok70 : bldOk Tryz.prog 70 = true := by kernel_rfl
theorem zro70 : zro Tryz.prog 70 = some (.agg #[.pointer none, .slice none 0 0]) := by kernel_rfl
theorem shp71 : shp Tryz.prog 71 = some (true, 2) := by kernel_rfl
theorem fld71n0 : fld Tryz.prog 71 0 = some (0, false, 1) := by kernel_rfl
theorem fld71n1 : fld Tryz.prog 71 1 = some (1, false, 1) := by kernel_rfl
theorem bok71 : bldOk Tryz.prog 71 = true := by kernel_rfl
theorem zro71 : zro Tryz.prog 71 = some (.agg #[.pointer none, .slice none 0 0]) := by kernel_rfl
theorem shp72 : shp Tryz.prog 72 = some (false, 1) := by kernel_rfl
theorem zro72 : zro Tryz.prog 72 = some (.map none) := by kernel_rfl
theorem shp75 : shp Tryz.prog 75 = some (false, 1) := by kernel_rfl
theorem zro75 : zro Tryz.prog 75 = some (.nilIface) := by kernel_rfl
theorem shp76 : shp Tryz.prog 76 = some (false, 1) := by kernel_rfl
theorem zro76 : zro Tryz.prog 76 = some (.nilIface) := by kernel_rfl
theorem shp83 : shp Tryz.prog 83 = some (true, 2) := by kernel_rfl
theorem fld83n0 : fld Tryz.prog 83 0 = some (0, false, 1) := by kernel_rfl
theorem fld83n1 : fld Tryz.prog 83 1 = some (1, false, 1) := by kernel_rfl
theorem bok83 : bldOk Tryz.prog 83 = true := by kernel_rfl
theorem sih83 : Tryz.prog.stoodInHeld 83 = false := by kernel_rfl
theorem egt83 : Tryz.prog.eqGuardType Tryz.prog.depth 83 = false := by kernel_rfl
theorem zro83 : zro Tryz.prog 83 = some (.agg #[.int .i64 0, .int .i64 0]) := by kernel_rfl
theorem shp84 : shp Tryz.prog 84 = some (true, 2) := by kernel_rfl
theorem fld84n0 : fld Tryz.prog 84 0 = some (0, false, 1) := by kernel_rfl
theorem fld84n1 : fld Tryz.prog 84 1 = some (1, false, 1) := by kernel_rfl
theorem bok84 : bldOk Tryz.prog 84 = true := by kernel_rfl
theorem sih84 : Tryz.prog.stoodInHeld 84 = false := by kernel_rfl
theorem egt84 : Tryz.prog.eqGuardType Tryz.prog.depth 84 = false := by kernel_rfl
theorem zro84 : zro Tryz.prog 84 = some (.agg #[.int .i64 0, .int .i64 0]) := by kernel_rfl
theorem shp85 : shp Tryz.prog 85 = some (true, 2) := by kernel_rfl
theorem fld85n0 : fld Tryz.prog 85 0 = some (0, false, 1) := by kernel_rfl
theorem fld85n1 : fld Tryz.prog 85 1 = some (1, false, 1) := by kernel_rfl
theorem bok85 : bldOk Tryz.prog 85 = true := by kernel_rfl
theorem sih85 : Tryz.prog.stoodInHeld 85 = false := by kernel_rfl
theorem egt85 : Tryz.prog.eqGuardType Tryz.prog.depth 85 = false := by kernel_rfl
theorem zro85 : zro Tryz.prog 85 = some (.agg #[.slice none 0 0, .int .i64 0]) := by kernel_rfl
theorem shp86 : shp Tryz.prog 86 = some (true, 2) := by kernel_rfl
theorem fld86n0 : fld Tryz.prog 86 0 = some (0, false, 1) := by kernel_rfl
theorem fld86n1 : fld Tryz.prog 86 1 = some (1, false, 1) := by kernel_rfl
theorem bok86 : bldOk Tryz.prog 86 = true := by kernel_rfl
theorem sih86 : Tryz.prog.stoodInHeld 86 = false := by kernel_rfl
theorem egt86 : Tryz.prog.eqGuardType Tryz.prog.depth 86 = false := by kernel_rfl
theorem zro86 : zro Tryz.prog 86 = some (.agg #[.slice none 0 0, .int .i64 0]) := by kernel_rfl
theorem shp97 : shp Tryz.prog 97 = some (false, 1) := by kernel_rfl
theorem zro97 : zro Tryz.prog 97 = some (.pointer none) := by kernel_rfl
theorem shp108 : shp Tryz.prog 108 = some (false, 1) := by kernel_rfl
theorem zro108 : zro Tryz.prog 108 = some (.pointer none) := by kernel_rfl
theorem shp112 : shp Tryz.prog 112 = some (true, 24) := by kernel_rfl
theorem bok112 : bldOk Tryz.prog 112 = false := by kernel_rfl
theorem zro112 : zro Tryz.prog 112 = some (.agg #[.int .u8 0, .int .u8 0, .int .u8 0, .int .u8 0, .int .u8 0, .int .u8 0, .int .u8 0, .int .u8 0, .int .u8 0, .int .u8 0, .int .u8 0, .int .u8 0, .int .u8 0, .int .u8 0, .int .u8 0, .int .u8 0, .int .u8 0, .int .u8 0, .int .u8 0, .int .u8 0, .int .u8 0, .int .u8 0, .int .u8 0, .int .u8 0]) := by kernel_rfl
theorem shp113 : shp Tryz.prog 113 = some (false, 1) := by kernel_rfl
theorem zro113 : zro Tryz.prog 113 = some (.int .u64 0) := by kernel_rfl
theorem shp122 : shp Tryz.prog 122 = some (true, 20) := by kernel_rfl
theorem bok122 : bldOk Tryz.prog 122 = false := by kernel_rfl
theorem zro122 : zro Tryz.prog 122 = some (.agg #[.int .u64 0, .int .u64 0, .int .u64 0, .int .u64 0, .int .u64 0, .int .u64 0, .int .u64 0, .int .u64 0, .int .u64 0, .int .u64 0, .int .u64 0, .int .u64 0, .int .u64 0, .int .u64 0, .int .u64 0, .int .u64 0, .int .u64 0, .int .u64 0, .int .u64 0, .int .u64 0]) := by kernel_rfl
theorem shp123 : shp Tryz.prog 123 = some (false, 1) := by kernel_rfl
theorem zro123 : zro Tryz.prog 123 = some (.int .u32 0) := by kernel_rfl
theorem shp124 : shp Tryz.prog 124 = some (true, 65) := by kernel_rfl
theorem bok124 : bldOk Tryz.prog 124 = false := by kernel_rfl
theorem zro124 : zro Tryz.prog 124 = some (.agg #[.int .u8 0, .int .u8 0, .int .u8 0, .int .u8 0, .int .u8 0, .int .u8 0, .int .u8 0, .int .u8 0, .int .u8 0, .int .u8 0, .int .u8 0, .int .u8 0, .int .u8 0, .int .u8 0, .int .u8 0, .int .u8 0, .int .u8 0, .int .u8 0, .int .u8 0, .int .u8 0, .int .u8 0, .int .u8 0, .int .u8 0, .int .u8 0, .int .u8 0, .int .u8 0, .int .u8 0, .int .u8 0, .int .u8 0, .int .u8 0, .int .u8 0, .int .u8 0, .int .u8 0, .int .u8 0, .int .u8 0, .int .u8 0, .int .u8 0, .int .u8 0, .int .u8 0, .int .u8 0, .int .u8 0, .int .u8 0, .int .u8 0, .int .u8 0, .int .u8 0, .int .u8 0, .int .u8 0, .int .u8 0, .int .u8 0, .int .u8 0, .int .u8 0, .int .u8 0, .int .u8 0, .int .u8 0, .int .u8 0, .int .u8 0, .int .u8 0, .int .u8 0, .int .u8 0, .int .u8 0, .int .u8 0, .int .u8 0, .int .u8 0, .int .u8 0, .int .u8 0]) := by kernel_rfl
theorem shp126 : shp Tryz.prog 126 = some (false, 1) := by kernel_rfl
theorem zro126 : zro Tryz.prog 126 = some (.int .u64 0) := by kernel_rfl
theorem shp132 : shp Tryz.prog 132 = some (true, 32) := by kernel_rfl
theorem bok132 : bldOk Tryz.prog 132 = false := by kernel_rfl
theorem zro132 : zro Tryz.prog 132 = some (.agg #[.int .u8 0, .int .u8 0, .int .u8 0, .int .u8 0, .int .u8 0, .int .u8 0, .int .u8 0, .int .u8 0, .int .u8 0, .int .u8 0, .int .u8 0, .int .u8 0, .int .u8 0, .int .u8 0, .int .u8 0, .int .u8 0, .int .u8 0, .int .u8 0, .int .u8 0, .int .u8 0, .int .u8 0, .int .u8 0, .int .u8 0, .int .u8 0, .int .u8 0, .int .u8 0, .int .u8 0, .int .u8 0, .int .u8 0, .int .u8 0, .int .u8 0, .int .u8 0]) := by kernel_rfl
theorem shp133 : shp Tryz.prog 133 = some (true, 64) := by kernel_rfl
theorem bok133 : bldOk Tryz.prog 133 = false := by kernel_rfl
theorem zro133 : zro Tryz.prog 133 = some (.agg #[.int .u8 0, .int .u8 0, .int .u8 0, .int .u8 0, .int .u8 0, .int .u8 0, .int .u8 0, .int .u8 0, .int .u8 0, .int .u8 0, .int .u8 0, .int .u8 0, .int .u8 0, .int .u8 0, .int .u8 0, .int .u8 0, .int .u8 0, .int .u8 0, .int .u8 0, .int .u8 0, .int .u8 0, .int .u8 0, .int .u8 0, .int .u8 0, .int .u8 0, .int .u8 0, .int .u8 0, .int .u8 0, .int .u8 0, .int .u8 0, .int .u8 0, .int .u8 0, .int .u8 0, .int .u8 0, .int .u8 0, .int .u8 0, .int .u8 0, .int .u8 0, .int .u8 0, .int .u8 0, .int .u8 0, .int .u8 0, .int .u8 0, .int .u8 0, .int .u8 0, .int .u8 0, .int .u8 0, .int .u8 0, .int .u8 0, .int .u8 0, .int .u8 0, .int .u8 0, .int .u8 0, .int .u8 0, .int .u8 0, .int .u8 0, .int .u8 0, .int .u8 0, .int .u8 0, .int .u8 0, .int .u8 0, .int .u8 0, .int .u8 0, .int .u8 0]) := by kernel_rfl
theorem shp134 : shp Tryz.prog 134 = some (true, 4) := by kernel_rfl
theorem fld134n0 : fld Tryz.prog 134 0 = some (0, false, 1) := by kernel_rfl
theorem fld134n1 : fld Tryz.prog 134 1 = some (1, false, 1) := by kernel_rfl
theorem fld134n2 : fld Tryz.prog 134 2 = some (2, false, 1) := by kernel_rfl
theorem fld134n3 : fld Tryz.prog 134 3 = some (3, false, 1) := by kernel_rfl
theorem bok134 : bldOk Tryz.prog 134 = true := by kernel_rfl
theorem zro134 : zro Tryz.prog 134 = some (.agg #[.pointer none, .pointer none, .pointer none, .string ⟨#[]⟩]) := by kernel_rfl
theorem shp135 : shp Tryz.prog 135 = some (true, 4) := by kernel_rfl
theorem fld135n0 : fld Tryz.prog 135 0 = some (0, false, 1) := by kernel_rfl
theorem fld135n1 : fld Tryz.prog 135 1 = some (1, false, 1) := by kernel_rfl
theorem fld135n2 : fld Tryz.prog 135 2 = some (2, false, 1) := by kernel_rfl
theorem fld135n3 : fld Tryz.prog 135 3 = some (3, false, 1) := by kernel_rfl
theorem bok135 : bldOk Tryz.prog 135 = true := by kernel_rfl
theorem zro135 : zro Tryz.prog 135 = some (.agg #[.pointer none, .pointer none, .pointer none, .string ⟨#[]⟩]) := by kernel_rfl
theorem shp136 : shp Tryz.prog 136 = some (true, 0) := by kernel_rfl
theorem bok136 : bldOk Tryz.prog 136 = false := by kernel_rfl
theorem zro136 : zro Tryz.prog 136 = some (.agg #[]) := by kernel_rfl
theorem shp137 : shp Tryz.prog 137 = some (true, 0) := by kernel_rfl
theorem fld137n0 : fld Tryz.prog 137 0 = some (0, true, 0) := by kernel_rfl
theorem bok137 : bldOk Tryz.prog 137 = true := by kernel_rfl
theorem zro137 : zro Tryz.prog 137 = some (.agg #[]) := by kernel_rfl
theorem shp138 : shp Tryz.prog 138 = some (true, 0) := by kernel_rfl
theorem fld138n0 : fld Tryz.prog 138 0 = some (0, true, 0) := by kernel_rfl
theorem bok138 : bldOk Tryz.prog 138 = true := by kernel_rfl
theorem zro138 : zro Tryz.prog 138 = some (.agg #[]) := by kernel_rfl
theorem shp139 : shp Tryz.prog 139 = some (false, 1) := by kernel_rfl
theorem zro139 : zro Tryz.prog 139 = some (.int .u8 0) := by kernel_rfl
theorem shp140 : shp Tryz.prog 140 = some (false, 1) := by kernel_rfl
theorem zro140 : zro Tryz.prog 140 = some (.int .u8 0) := by kernel_rfl
theorem shp142 : shp Tryz.prog 142 = some (false, 1) := by kernel_rfl
theorem zro142 : zro Tryz.prog 142 = some (.int .i32 0) := by kernel_rfl
theorem shp143 : shp Tryz.prog 143 = some (false, 1) := by kernel_rfl
theorem zro143 : zro Tryz.prog 143 = some (.int .i32 0) := by kernel_rfl
theorem shp144 : shp Tryz.prog 144 = some (true, 11) := by kernel_rfl
theorem fld144n0 : fld Tryz.prog 144 0 = some (0, false, 1) := by kernel_rfl
theorem fld144n1 : fld Tryz.prog 144 1 = some (1, false, 1) := by kernel_rfl
theorem fld144n2 : fld Tryz.prog 144 2 = some (2, false, 1) := by kernel_rfl
theorem fld144n3 : fld Tryz.prog 144 3 = some (3, false, 1) := by kernel_rfl
theorem fld144n4 : fld Tryz.prog 144 4 = some (4, false, 1) := by kernel_rfl
theorem fld144n5 : fld Tryz.prog 144 5 = some (5, false, 1) := by kernel_rfl
theorem fld144n6 : fld Tryz.prog 144 6 = some (6, false, 1) := by kernel_rfl
theorem fld144n7 : fld Tryz.prog 144 7 = some (7, false, 1) := by kernel_rfl
theorem fld144n8 : fld Tryz.prog 144 8 = some (8, false, 1) := by kernel_rfl
theorem fld144n9 : fld Tryz.prog 144 9 = some (9, false, 1) := by kernel_rfl
theorem fld144n10 : fld Tryz.prog 144 10 = some (10, false, 1) := by kernel_rfl
theorem bok144 : bldOk Tryz.prog 144 = true := by kernel_rfl
theorem zro144 : zro Tryz.prog 144 = some (.agg #[.int .u64 0, .int .u64 0, .int .u32 0, .int .u8 0, .int .u8 0, .int .u8 0, .int .u8 0, .nilFunc, .pointer none, .int .i32 0, .int .i32 0]) := by kernel_rfl
theorem shp145 : shp Tryz.prog 145 = some (true, 11) := by kernel_rfl
theorem fld145n0 : fld Tryz.prog 145 0 = some (0, false, 1) := by kernel_rfl
theorem fld145n1 : fld Tryz.prog 145 1 = some (1, false, 1) := by kernel_rfl
theorem fld145n2 : fld Tryz.prog 145 2 = some (2, false, 1) := by kernel_rfl
theorem fld145n3 : fld Tryz.prog 145 3 = some (3, false, 1) := by kernel_rfl
theorem fld145n4 : fld Tryz.prog 145 4 = some (4, false, 1) := by kernel_rfl
theorem fld145n5 : fld Tryz.prog 145 5 = some (5, false, 1) := by kernel_rfl
theorem fld145n6 : fld Tryz.prog 145 6 = some (6, false, 1) := by kernel_rfl
theorem fld145n7 : fld Tryz.prog 145 7 = some (7, false, 1) := by kernel_rfl
theorem fld145n8 : fld Tryz.prog 145 8 = some (8, false, 1) := by kernel_rfl
theorem fld145n9 : fld Tryz.prog 145 9 = some (9, false, 1) := by kernel_rfl
theorem fld145n10 : fld Tryz.prog 145 10 = some (10, false, 1) := by kernel_rfl
theorem bok145 : bldOk Tryz.prog 145 = true := by kernel_rfl
theorem zro145 : zro Tryz.prog 145 = some (.agg #[.int .u64 0, .int .u64 0, .int .u32 0, .int .u8 0, .int .u8 0, .int .u8 0, .int .u8 0, .nilFunc, .pointer none, .int .i32 0, .int .i32 0]) := by kernel_rfl
theorem cal2 : callable Tryz.prog 2 = true := by kernel_rfl
theorem cal3 : callable Tryz.prog 3 = true := by kernel_rfl
theorem cal4 : callable Tryz.prog 4 = true := by kernel_rfl
theorem cal5 : callable Tryz.prog 5 = true := by kernel_rfl
theorem cal6 : callable Tryz.prog 6 = true := by kernel_rfl
theorem cal7 : callable Tryz.prog 7 = true := by kernel_rfl
theorem cal8 : callable Tryz.prog 8 = true := by kernel_rfl
theorem cal9 : callable Tryz.prog 9 = true := by kernel_rfl
theorem cal10 : callable Tryz.prog 10 = true := by kernel_rfl
theorem cal11 : callable Tryz.prog 11 = true := by kernel_rfl
theorem cal12 : callable Tryz.prog 12 = true := by kernel_rfl
theorem cal13 : callable Tryz.prog 13 = true := by kernel_rfl
theorem cal14 : callable Tryz.prog 14 = true := by kernel_rfl
theorem cal15 : callable Tryz.prog 15 = true := by kernel_rfl
theorem cal16 : callable Tryz.prog 16 = true := by kernel_rfl
theorem cal17 : callable Tryz.prog 17 = true := by kernel_rfl
theorem cal18 : callable Tryz.prog 18 = true := by kernel_rfl
theorem cal19 : callable Tryz.prog 19 = true := by kernel_rfl
theorem cal20 : callable Tryz.prog 20 = true := by kernel_rfl
theorem cal21 : callable Tryz.prog 21 = true := by kernel_rfl
theorem cal22 : callable Tryz.prog 22 = true := by kernel_rfl
theorem cal23 : callable Tryz.prog 23 = true := by kernel_rfl
theorem cal24 : callable Tryz.prog 24 = true := by kernel_rfl
theorem cal25 : callable Tryz.prog 25 = true := by kernel_rfl
theorem cal26 : callable Tryz.prog 26 = true := by kernel_rfl
theorem cal27 : callable Tryz.prog 27 = true := by kernel_rfl
theorem cal28 : callable Tryz.prog 28 = true := by kernel_rfl
theorem cal29 : callable Tryz.prog 29 = true := by kernel_rfl
theorem cal30 : callable Tryz.prog 30 = true := by kernel_rfl
theorem cal31 : callable Tryz.prog 31 = true := by kernel_rfl
theorem cal32 : callable Tryz.prog 32 = true := by kernel_rfl
theorem cal33 : callable Tryz.prog 33 = true := by kernel_rfl
theorem cal34 : callable Tryz.prog 34 = true := by kernel_rfl
theorem cal35 : callable Tryz.prog 35 = true := by kernel_rfl
theorem cal36 : callable Tryz.prog 36 = true := by kernel_rfl
theorem cal37 : callable Tryz.prog 37 = true := by kernel_rfl
theorem cal38 : callable Tryz.prog 38 = true := by kernel_rfl
theorem cal39 : callable Tryz.prog 39 = true := by kernel_rfl
theorem cal40 : callable Tryz.prog 40 = true := by kernel_rfl
theorem cal41 : callable Tryz.prog 41 = true := by kernel_rfl
theorem cal42 : callable Tryz.prog 42 = true := by kernel_rfl
theorem cal43 : callable Tryz.prog 43 = true := by kernel_rfl
theorem cal44 : callable Tryz.prog 44 = true := by kernel_rfl
theorem cal45 : callable Tryz.prog 45 = true := by kernel_rfl
theorem cal46 : callable Tryz.prog 46 = true := by kernel_rfl
theorem cal47 : callable Tryz.prog 47 = true := by kernel_rfl
theorem cal48 : callable Tryz.prog 48 = true := by kernel_rfl
theorem cal49 : callable Tryz.prog 49 = true := by kernel_rfl
theorem cal50 : callable Tryz.prog 50 = true := by kernel_rfl
theorem cal51 : callable Tryz.prog 51 = true := by kernel_rfl
theorem cal52 : callable Tryz.prog 52 = true := by kernel_rfl
theorem cal53 : callable Tryz.prog 53 = true := by kernel_rfl
theorem cal54 : callable Tryz.prog 54 = true := by kernel_rfl
theorem cal55 : callable Tryz.prog 55 = true := by kernel_rfl
theorem cal56 : callable Tryz.prog 56 = true := by kernel_rfl
theorem cal57 : callable Tryz.prog 57 = true := by kernel_rfl
theorem cal58 : callable Tryz.prog 58 = true := by kernel_rfl
theorem cal59 : callable Tryz.prog 59 = true := by kernel_rfl
theorem cal60 : callable Tryz.prog 60 = true := by kernel_rfl
theorem cal61 : callable Tryz.prog 61 = true := by kernel_rfl
theorem cal62 : callable Tryz.prog 62 = true := by kernel_rfl
theorem cal63 : callable Tryz.prog 63 = true := by kernel_rfl
theorem cal64 : callable Tryz.prog 64 = true := by kernel_rfl
theorem cal65 : callable Tryz.prog 65 = true := by kernel_rfl
theorem cal66 : callable Tryz.prog 66 = true := by kernel_rfl
theorem cal67 : callable Tryz.prog 67 = true := by kernel_rfl
theorem cal68 : callable Tryz.prog 68 = true := by kernel_rfl
theorem cal69 : callable Tryz.prog 69 = true := by kernel_rfl
theorem cal70 : callable Tryz.prog 70 = true := by kernel_rfl
theorem cal71 : callable Tryz.prog 71 = true := by kernel_rfl
theorem cal72 : callable Tryz.prog 72 = true := by kernel_rfl
theorem cal73 : callable Tryz.prog 73 = true := by kernel_rfl
theorem cal74 : callable Tryz.prog 74 = true := by kernel_rfl
theorem cal75 : callable Tryz.prog 75 = true := by kernel_rfl
theorem cal76 : callable Tryz.prog 76 = true := by kernel_rfl
theorem cal77 : callable Tryz.prog 77 = true := by kernel_rfl
theorem cal78 : callable Tryz.prog 78 = true := by kernel_rfl
theorem cal79 : callable Tryz.prog 79 = true := by kernel_rfl
theorem cal80 : callable Tryz.prog 80 = true := by kernel_rfl
theorem cal81 : callable Tryz.prog 81 = true := by kernel_rfl
theorem cal82 : callable Tryz.prog 82 = true := by kernel_rfl
theorem cal83 : callable Tryz.prog 83 = true := by kernel_rfl
theorem cal84 : callable Tryz.prog 84 = true := by kernel_rfl
theorem cal85 : callable Tryz.prog 85 = true := by kernel_rfl
theorem cal86 : callable Tryz.prog 86 = true := by kernel_rfl
theorem cal87 : callable Tryz.prog 87 = true := by kernel_rfl
theorem cal88 : callable Tryz.prog 88 = true := by kernel_rfl
theorem cal89 : callable Tryz.prog 89 = true := by kernel_rfl
theorem cal90 : callable Tryz.prog 90 = true := by kernel_rfl
theorem cal91 : callable Tryz.prog 91 = true := by kernel_rfl
theorem cal92 : callable Tryz.prog 92 = true := by kernel_rfl
theorem cal93 : callable Tryz.prog 93 = true := by kernel_rfl
theorem cal94 : callable Tryz.prog 94 = true := by kernel_rfl
theorem cal95 : callable Tryz.prog 95 = true := by kernel_rfl
theorem cal96 : callable Tryz.prog 96 = true := by kernel_rfl
theorem cal97 : callable Tryz.prog 97 = true := by kernel_rfl
theorem cal99 : callable Tryz.prog 99 = true := by kernel_rfl
theorem cal100 : callable Tryz.prog 100 = true := by kernel_rfl
theorem cal101 : callable Tryz.prog 101 = true := by kernel_rfl
theorem cal102 : callable Tryz.prog 102 = true := by kernel_rfl
theorem cal103 : callable Tryz.prog 103 = true := by kernel_rfl
theorem cal104 : callable Tryz.prog 104 = true := by kernel_rfl
theorem cal105 : callable Tryz.prog 105 = true := by kernel_rfl
theorem cal106 : callable Tryz.prog 106 = true := by kernel_rfl
theorem cal107 : callable Tryz.prog 107 = true := by kernel_rfl
theorem cal108 : callable Tryz.prog 108 = true := by kernel_rfl
theorem cal109 : callable Tryz.prog 109 = true := by kernel_rfl
theorem cal110 : callable Tryz.prog 110 = true := by kernel_rfl
theorem cal111 : callable Tryz.prog 111 = true := by kernel_rfl
theorem cal112 : callable Tryz.prog 112 = true := by kernel_rfl
theorem cal113 : callable Tryz.prog 113 = true := by kernel_rfl
theorem cal114 : callable Tryz.prog 114 = true := by kernel_rfl
theorem cal115 : callable Tryz.prog 115 = true := by kernel_rfl
theorem cal116 : callable Tryz.prog 116 = true := by kernel_rfl
theorem cal117 : callable Tryz.prog 117 = true := by kernel_rfl
theorem cal119 : callable Tryz.prog 119 = true := by kernel_rfl
theorem cal120 : callable Tryz.prog 120 = true := by kernel_rfl
theorem cal121 : callable Tryz.prog 121 = true := by kernel_rfl
theorem cal122 : callable Tryz.prog 122 = true := by kernel_rfl
theorem cal123 : callable Tryz.prog 123 = true := by kernel_rfl
theorem cal124 : callable Tryz.prog 124 = true := by kernel_rfl
theorem cal125 : callable Tryz.prog 125 = true := by kernel_rfl
theorem cal126 : callable Tryz.prog 126 = true := by kernel_rfl
theorem cal127 : callable Tryz.prog 127 = true := by kernel_rfl
theorem cal128 : callable Tryz.prog 128 = true := by kernel_rfl
theorem cal129 : callable Tryz.prog 129 = true := by kernel_rfl
theorem cal130 : callable Tryz.prog 130 = true := by kernel_rfl
theorem cal132 : callable Tryz.prog 132 = true := by kernel_rfl
theorem cal133 : callable Tryz.prog 133 = true := by kernel_rfl
theorem cal134 : callable Tryz.prog 134 = true := by kernel_rfl
theorem cal135 : callable Tryz.prog 135 = true := by kernel_rfl
theorem cal136 : callable Tryz.prog 136 = true := by kernel_rfl
theorem cal159 : callable Tryz.prog 159 = true := by kernel_rfl
theorem cal0 : callable Tryz.prog 0 = false := by kernel_rfl
theorem cal1 : callable Tryz.prog 1 = false := by kernel_rfl
theorem cal98 : callable Tryz.prog 98 = false := by kernel_rfl
theorem cal118 : callable Tryz.prog 118 = false := by kernel_rfl
theorem cal131 : callable Tryz.prog 131 = false := by kernel_rfl
theorem cal137 : callable Tryz.prog 137 = false := by kernel_rfl
theorem cal138 : callable Tryz.prog 138 = false := by kernel_rfl
theorem cal139 : callable Tryz.prog 139 = false := by kernel_rfl
theorem cal140 : callable Tryz.prog 140 = false := by kernel_rfl
theorem cal141 : callable Tryz.prog 141 = false := by kernel_rfl
theorem cal142 : callable Tryz.prog 142 = false := by kernel_rfl
theorem cal143 : callable Tryz.prog 143 = false := by kernel_rfl
theorem cal144 : callable Tryz.prog 144 = false := by kernel_rfl
theorem cal145 : callable Tryz.prog 145 = false := by kernel_rfl
theorem cal146 : callable Tryz.prog 146 = false := by kernel_rfl
theorem cal147 : callable Tryz.prog 147 = false := by kernel_rfl
theorem cal148 : callable Tryz.prog 148 = false := by kernel_rfl
theorem cal149 : callable Tryz.prog 149 = false := by kernel_rfl
theorem cal150 : callable Tryz.prog 150 = false := by kernel_rfl
theorem cal151 : callable Tryz.prog 151 = false := by kernel_rfl
theorem cal152 : callable Tryz.prog 152 = false := by kernel_rfl
theorem cal153 : callable Tryz.prog 153 = false := by kernel_rfl
theorem cal154 : callable Tryz.prog 154 = false := by kernel_rfl
theorem cal155 : callable Tryz.prog 155 = false := by kernel_rfl
theorem cal156 : callable Tryz.prog 156 = false := by kernel_rfl
theorem cal157 : callable Tryz.prog 157 = false := by kernel_rfl
theorem cal158 : callable Tryz.prog 158 = false := by kernel_rfl
theorem tyS0 : type_of% (And.intro @shp2 (And.intro @zro2 (And.intro @shp3 (And.intro @zro3 (And.intro @shp4 (And.intro @zro4 (And.intro @shp5 (And.intro @zro5 (And.intro @shp6 (And.intro @zro6 (And.intro @shp7 (And.intro @fld7n0 (And.intro @fld7n1 (And.intro @fld7n2 (And.intro @fld7n3 (And.intro @bok7 (And.intro @zro7 (And.intro @shp8 (And.intro @fld8n0 (And.intro @fld8n1 (And.intro @fld8n2 (And.intro @fld8n3 (And.intro @bok8 (And.intro @zro8 (And.intro @shp9 (And.intro @zro9 (And.intro @shp10 (And.intro @zro10 (And.intro @shp11 (And.intro @zro11 (And.intro @shp12 (And.intro @zro12 (And.intro @shp13 (And.intro @fld13n0 (And.intro @fld13n1 (And.intro @bok13 (And.intro @zro13 (And.intro @shp14 (And.intro @fld14n0 (And.intro @fld14n1 (And.intro @bok14 (And.intro @zro14 (And.intro @shp15 (And.intro @zro15 (And.intro @shp16 (And.intro @zro16 (And.intro @shp17 (And.intro @zro17 (And.intro @shp18 (And.intro @fld18n0 (And.intro @bok18 (And.intro @zro18 (And.intro @shp19 (And.intro @fld19n0 (And.intro @bok19 (And.intro @zro19 (And.intro @shp20 (And.intro @zro20 (And.intro @shp21 (And.intro @zro21 (And.intro @shp23 (And.intro @zro23 (And.intro @slc23 (And.intro @shp24 (And.intro @zro24 (And.intro @shp29 (And.intro @zro29 (And.intro @slc29 (And.intro @shp30 (And.intro @fld30n0 (And.intro @fld30n1 (And.intro @fld30n2 (And.intro @fld30n3 (And.intro @fld30n4 (And.intro @bok30 (And.intro @sih30 (And.intro @egt30 (And.intro @zro30 (And.intro @shp31 (And.intro @fld31n0 (And.intro @fld31n1 (And.intro @fld31n2 (And.intro @fld31n3 (And.intro @fld31n4 (And.intro @bok31 (And.intro @sih31 (And.intro @egt31 (And.intro @zro31 (And.intro @shp42 (And.intro @fld42n0 (And.intro @fld42n1 (And.intro @fld42n2 (And.intro @fld42n3 (And.intro @bok42 (And.intro @sih42 (And.intro @egt42 (And.intro @zro42 (And.intro @shp43 (And.intro @fld43n0 (@fld43n1)))))))))))))))))))))))))))))))))))))))))))))))))))))))))))))))))))))))))))))))))))))))))))))))))))) := And.intro @shp2 (And.intro @zro2 (And.intro @shp3 (And.intro @zro3 (And.intro @shp4 (And.intro @zro4 (And.intro @shp5 (And.intro @zro5 (And.intro @shp6 (And.intro @zro6 (And.intro @shp7 (And.intro @fld7n0 (And.intro @fld7n1 (And.intro @fld7n2 (And.intro @fld7n3 (And.intro @bok7 (And.intro @zro7 (And.intro @shp8 (And.intro @fld8n0 (And.intro @fld8n1 (And.intro @fld8n2 (And.intro @fld8n3 (And.intro @bok8 (And.intro @zro8 (And.intro @shp9 (And.intro @zro9 (And.intro @shp10 (And.intro @zro10 (And.intro @shp11 (And.intro @zro11 (And.intro @shp12 (And.intro @zro12 (And.intro @shp13 (And.intro @fld13n0 (And.intro @fld13n1 (And.intro @bok13 (And.intro @zro13 (And.intro @shp14 (And.intro @fld14n0 (And.intro @fld14n1 (And.intro @bok14 (And.intro @zro14 (And.intro @shp15 (And.intro @zro15 (And.intro @shp16 (And.intro @zro16 (And.intro @shp17 (And.intro @zro17 (And.intro @shp18 (And.intro @fld18n0 (And.intro @bok18 (And.intro @zro18 (And.intro @shp19 (And.intro @fld19n0 (And.intro @bok19 (And.intro @zro19 (And.intro @shp20 (And.intro @zro20 (And.intro @shp21 (And.intro @zro21 (And.intro @shp23 (And.intro @zro23 (And.intro @slc23 (And.intro @shp24 (And.intro @zro24 (And.intro @shp29 (And.intro @zro29 (And.intro @slc29 (And.intro @shp30 (And.intro @fld30n0 (And.intro @fld30n1 (And.intro @fld30n2 (And.intro @fld30n3 (And.intro @fld30n4 (And.intro @bok30 (And.intro @sih30 (And.intro @egt30 (And.intro @zro30 (And.intro @shp31 (And.intro @fld31n0 (And.intro @fld31n1 (And.intro @fld31n2 (And.intro @fld31n3 (And.intro @fld31n4 (And.intro @bok31 (And.intro @sih31 (And.intro @egt31 (And.intro @zro31 (And.intro @shp42 (And.intro @fld42n0 (And.intro @fld42n1 (And.intro @fld42n2 (And.intro @fld42n3 (And.intro @bok42 (And.intro @sih42 (And.intro @egt42 (And.intro @zro42 (And.intro @shp43 (And.intro @fld43n0 (@fld43n1)))))))))))))))))))))))))))))))))))))))))))))))))))))))))))))))))))))))))))))))))))))))))))))))))))
theorem tyS1 : type_of% (And.intro @fld43n2 (And.intro @fld43n3 (And.intro @bok43 (And.intro @sih43 (And.intro @egt43 (And.intro @zro43 (And.intro @shp46 (And.intro @zro46 (And.intro @shp47 (And.intro @fld47n0 (And.intro @fld47n1 (And.intro @fld47n2 (And.intro @fld47n3 (And.intro @bok47 (And.intro @sih47 (And.intro @egt47 (And.intro @zro47 (And.intro @shp48 (And.intro @fld48n0 (And.intro @fld48n1 (And.intro @fld48n2 (And.intro @fld48n3 (And.intro @bok48 (And.intro @sih48 (And.intro @egt48 (And.intro @zro48 (And.intro @shp49 (And.intro @zro49 (And.intro @shp50 (And.intro @fld50n0 (And.intro @bok50 (And.intro @sih50 (And.intro @egt50 (And.intro @zro50 (And.intro @shp51 (And.intro @fld51n0 (And.intro @bok51 (And.intro @sih51 (And.intro @egt51 (And.intro @zro51 (And.intro @shp55 (And.intro @zro55 (And.intro @slc55 (And.intro @shp58 (And.intro @zro58 (And.intro @shp59 (And.intro @fld59n0 (And.intro @fld59n1 (And.intro @fld59n2 (And.intro @fld59n3 (And.intro @bok59 (And.intro @sih59 (And.intro @egt59 (And.intro @zro59 (And.intro @shp60 (And.intro @fld60n0 (And.intro @fld60n1 (And.intro @fld60n2 (And.intro @fld60n3 (And.intro @bok60 (And.intro @sih60 (And.intro @egt60 (And.intro @zro60 (And.intro @shp68 (And.intro @zro68 (And.intro @shp69 (And.intro @zro69 (And.intro @slc69 (And.intro @shp70 (And.intro @fld70n0 (And.intro @fld70n1 (And.intro @bok70 (And.intro @zro70 (And.intro @shp71 (And.intro @fld71n0 (And.intro @fld71n1 (And.intro @bok71 (And.intro @zro71 (And.intro @shp72 (And.intro @zro72 (And.intro @shp75 (And.intro @zro75 (And.intro @shp76 (And.intro @zro76 (And.intro @shp83 (And.intro @fld83n0 (And.intro @fld83n1 (And.intro @bok83 (And.intro @sih83 (And.intro @egt83 (And.intro @zro83 (And.intro @shp84 (And.intro @fld84n0 (And.intro @fld84n1 (And.intro @bok84 (And.intro @sih84 (And.intro @egt84 (And.intro @zro84 (And.intro @shp85 (@fld85n0)))))))))))))))))))))))))))))))))))))))))))))))))))))))))))))))))))))))))))))))))))))))))))))))))))) := And.intro @fld43n2 (And.intro @fld43n3 (And.intro @bok43 (And.intro @sih43 (And.intro @egt43 (And.intro @zro43 (And.intro @shp46 (And.intro @zro46 (And.intro @shp47 (And.intro @fld47n0 (And.intro @fld47n1 (And.intro @fld47n2 (And.intro @fld47n3 (And.intro @bok47 (And.intro @sih47 (And.intro @egt47 (And.intro @zro47 (And.intro @shp48 (And.intro @fld48n0 (And.intro @fld48n1 (And.intro @fld48n2 (And.intro @fld48n3 (And.intro @bok48 (And.intro @sih48 (And.intro @egt48 (And.intro @zro48 (And.intro @shp49 (And.intro @zro49 (And.intro @shp50 (And.intro @fld50n0 (And.intro @bok50 (And.intro @sih50 (And.intro @egt50 (And.intro @zro50 (And.intro @shp51 (And.intro @fld51n0 (And.intro @bok51 (And.intro @sih51 (And.intro @egt51 (And.intro @zro51 (And.intro @shp55 (And.intro @zro55 (And.intro @slc55 (And.intro @shp58 (And.intro @zro58 (And.intro @shp59 (And.intro @fld59n0 (And.intro @fld59n1 (And.intro @fld59n2 (And.intro @fld59n3 (And.intro @bok59 (And.intro @sih59 (And.intro @egt59 (And.intro @zro59 (And.intro @shp60 (And.intro @fld60n0 (And.intro @fld60n1 (And.intro @fld60n2 (And.intro @fld60n3 (And.intro @bok60 (And.intro @sih60 (And.intro @egt60 (And.intro @zro60 (And.intro @shp68 (And.intro @zro68 (And.intro @shp69 (And.intro @zro69 (And.intro @slc69 (And.intro @shp70 (And.intro @fld70n0 (And.intro @fld70n1 (And.intro @bok70 (And.intro @zro70 (And.intro @shp71 (And.intro @fld71n0 (And.intro @fld71n1 (And.intro @bok71 (And.intro @zro71 (And.intro @shp72 (And.intro @zro72 (And.intro @shp75 (And.intro @zro75 (And.intro @shp76 (And.intro @zro76 (And.intro @shp83 (And.intro @fld83n0 (And.intro @fld83n1 (And.intro @bok83 (And.intro @sih83 (And.intro @egt83 (And.intro @zro83 (And.intro @shp84 (And.intro @fld84n0 (And.intro @fld84n1 (And.intro @bok84 (And.intro @sih84 (And.intro @egt84 (And.intro @zro84 (And.intro @shp85 (@fld85n0)))))))))))))))))))))))))))))))))))))))))))))))))))))))))))))))))))))))))))))))))))))))))))))))))))
theorem tyS2 : type_of% (And.intro @fld85n1 (And.intro @bok85 (And.intro @sih85 (And.intro @egt85 (And.intro @zro85 (And.intro @shp86 (And.intro @fld86n0 (And.intro @fld86n1 (And.intro @bok86 (And.intro @sih86 (And.intro @egt86 (And.intro @zro86 (And.intro @shp97 (And.intro @zro97 (And.intro @shp108 (And.intro @zro108 (And.intro @shp112 (And.intro @bok112 (And.intro @zro112 (And.intro @shp113 (And.intro @zro113 (And.intro @shp122 (And.intro @bok122 (And.intro @zro122 (And.intro @shp123 (And.intro @zro123 (And.intro @shp124 (And.intro @bok124 (And.intro @zro124 (And.intro @shp126 (And.intro @zro126 (And.intro @shp132 (And.intro @bok132 (And.intro @zro132 (And.intro @shp133 (And.intro @bok133 (And.intro @zro133 (And.intro @shp134 (And.intro @fld134n0 (And.intro @fld134n1 (And.intro @fld134n2 (And.intro @fld134n3 (And.intro @bok134 (And.intro @zro134 (And.intro @shp135 (And.intro @fld135n0 (And.intro @fld135n1 (And.intro @fld135n2 (And.intro @fld135n3 (And.intro @bok135 (And.intro @zro135 (And.intro @shp136 (And.intro @bok136 (And.intro @zro136 (And.intro @shp137 (And.intro @fld137n0 (And.intro @bok137 (And.intro @zro137 (And.intro @shp138 (And.intro @fld138n0 (And.intro @bok138 (And.intro @zro138 (And.intro @shp139 (And.intro @zro139 (And.intro @shp140 (And.intro @zro140 (And.intro @shp142 (And.intro @zro142 (And.intro @shp143 (And.intro @zro143 (And.intro @shp144 (And.intro @fld144n0 (And.intro @fld144n1 (And.intro @fld144n2 (And.intro @fld144n3 (And.intro @fld144n4 (And.intro @fld144n5 (And.intro @fld144n6 (And.intro @fld144n7 (And.intro @fld144n8 (And.intro @fld144n9 (And.intro @fld144n10 (And.intro @bok144 (And.intro @zro144 (And.intro @shp145 (And.intro @fld145n0 (And.intro @fld145n1 (And.intro @fld145n2 (And.intro @fld145n3 (And.intro @fld145n4 (And.intro @fld145n5 (And.intro @fld145n6 (And.intro @fld145n7 (And.intro @fld145n8 (And.intro @fld145n9 (And.intro @fld145n10 (And.intro @bok145 (And.intro @zro145 (And.intro @cal2 (@cal3)))))))))))))))))))))))))))))))))))))))))))))))))))))))))))))))))))))))))))))))))))))))))))))))))))) := And.intro @fld85n1 (And.intro @bok85 (And.intro @sih85 (And.intro @egt85 (And.intro @zro85 (And.intro @shp86 (And.intro @fld86n0 (And.intro @fld86n1 (And.intro @bok86 (And.intro @sih86 (And.intro @egt86 (And.intro @zro86 (And.intro @shp97 (And.intro @zro97 (And.intro @shp108 (And.intro @zro108 (And.intro @shp112 (And.intro @bok112 (And.intro @zro112 (And.intro @shp113 (And.intro @zro113 (And.intro @shp122 (And.intro @bok122 (And.intro @zro122 (And.intro @shp123 (And.intro @zro123 (And.intro @shp124 (And.intro @bok124 (And.intro @zro124 (And.intro @shp126 (And.intro @zro126 (And.intro @shp132 (And.intro @bok132 (And.intro @zro132 (And.intro @shp133 (And.intro @bok133 (And.intro @zro133 (And.intro @shp134 (And.intro @fld134n0 (And.intro @fld134n1 (And.intro @fld134n2 (And.intro @fld134n3 (And.intro @bok134 (And.intro @zro134 (And.intro @shp135 (And.intro @fld135n0 (And.intro @fld135n1 (And.intro @fld135n2 (And.intro @fld135n3 (And.intro @bok135 (And.intro @zro135 (And.intro @shp136 (And.intro @bok136 (And.intro @zro136 (And.intro @shp137 (And.intro @fld137n0 (And.intro @bok137 (And.intro @zro137 (And.intro @shp138 (And.intro @fld138n0 (And.intro @bok138 (And.intro @zro138 (And.intro @shp139 (And.intro @zro139 (And.intro @shp140 (And.intro @zro140 (And.intro @shp142 (And.intro @zro142 (And.intro @shp143 (And.intro @zro143 (And.intro @shp144 (And.intro @fld144n0 (And.intro @fld144n1 (And.intro @fld144n2 (And.intro @fld144n3 (And.intro @fld144n4 (And.intro @fld144n5 (And.intro @fld144n6 (And.intro @fld144n7 (And.intro @fld144n8 (And.intro @fld144n9 (And.intro @fld144n10 (And.intro @bok144 (And.intro @zro144 (And.intro @shp145 (And.intro @fld145n0 (And.intro @fld145n1 (And.intro @fld145n2 (And.intro @fld145n3 (And.intro @fld145n4 (And.intro @fld145n5 (And.intro @fld145n6 (And.intro @fld145n7 (And.intro @fld145n8 (And.intro @fld145n9 (And.intro @fld145n10 (And.intro @bok145 (And.intro @zro145 (And.intro @cal2 (@cal3)))))))))))))))))))))))))))))))))))))))))))))))))))))))))))))))))))))))))))))))))))))))))))))))))))
theorem tyS3 : type_of% (And.intro @cal4 (And.intro @cal5 (And.intro @cal6 (And.intro @cal7 (And.intro @cal8 (And.intro @cal9 (And.intro @cal10 (And.intro @cal11 (And.intro @cal12 (And.intro @cal13 (And.intro @cal14 (And.intro @cal15 (And.intro @cal16 (And.intro @cal17 (And.intro @cal18 (And.intro @cal19 (And.intro @cal20 (And.intro @cal21 (And.intro @cal22 (And.intro @cal23 (And.intro @cal24 (And.intro @cal25 (And.intro @cal26 (And.intro @cal27 (And.intro @cal28 (And.intro @cal29 (And.intro @cal30 (And.intro @cal31 (And.intro @cal32 (And.intro @cal33 (And.intro @cal34 (And.intro @cal35 (And.intro @cal36 (And.intro @cal37 (And.intro @cal38 (And.intro @cal39 (And.intro @cal40 (And.intro @cal41 (And.intro @cal42 (And.intro @cal43 (And.intro @cal44 (And.intro @cal45 (And.intro @cal46 (And.intro @cal47 (And.intro @cal48 (And.intro @cal49 (And.intro @cal50 (And.intro @cal51 (And.intro @cal52 (And.intro @cal53 (And.intro @cal54 (And.intro @cal55 (And.intro @cal56 (And.intro @cal57 (And.intro @cal58 (And.intro @cal59 (And.intro @cal60 (And.intro @cal61 (And.intro @cal62 (And.intro @cal63 (And.intro @cal64 (And.intro @cal65 (And.intro @cal66 (And.intro @cal67 (And.intro @cal68 (And.intro @cal69 (And.intro @cal70 (And.intro @cal71 (And.intro @cal72 (And.intro @cal73 (And.intro @cal74 (And.intro @cal75 (And.intro @cal76 (And.intro @cal77 (And.intro @cal78 (And.intro @cal79 (And.intro @cal80 (And.intro @cal81 (And.intro @cal82 (And.intro @cal83 (And.intro @cal84 (And.intro @cal85 (And.intro @cal86 (And.intro @cal87 (And.intro @cal88 (And.intro @cal89 (And.intro @cal90 (And.intro @cal91 (And.intro @cal92 (And.intro @cal93 (And.intro @cal94 (And.intro @cal95 (And.intro @cal96 (And.intro @cal97 (And.intro @cal99 (And.intro @cal100 (And.intro @cal101 (And.intro @cal102 (And.intro @cal103 (@cal104)))))))))))))))))))))))))))))))))))))))))))))))))))))))))))))))))))))))))))))))))))))))))))))))))))) := And.intro @cal4 (And.intro @cal5 (And.intro @cal6 (And.intro @cal7 (And.intro @cal8 (And.intro @cal9 (And.intro @cal10 (And.intro @cal11 (And.intro @cal12 (And.intro @cal13 (And.intro @cal14 (And.intro @cal15 (And.intro @cal16 (And.intro @cal17 (And.intro @cal18 (And.intro @cal19 (And.intro @cal20 (And.intro @cal21 (And.intro @cal22 (And.intro @cal23 (And.intro @cal24 (And.intro @cal25 (And.intro @cal26 (And.intro @cal27 (And.intro @cal28 (And.intro @cal29 (And.intro @cal30 (And.intro @cal31 (And.intro @cal32 (And.intro @cal33 (And.intro @cal34 (And.intro @cal35 (And.intro @cal36 (And.intro @cal37 (And.intro @cal38 (And.intro @cal39 (And.intro @cal40 (And.intro @cal41 (And.intro @cal42 (And.intro @cal43 (And.intro @cal44 (And.intro @cal45 (And.intro @cal46 (And.intro @cal47 (And.intro @cal48 (And.intro @cal49 (And.intro @cal50 (And.intro @cal51 (And.intro @cal52 (And.intro @cal53 (And.intro @cal54 (And.intro @cal55 (And.intro @cal56 (And.intro @cal57 (And.intro @cal58 (And.intro @cal59 (And.intro @cal60 (And.intro @cal61 (And.intro @cal62 (And.intro @cal63 (And.intro @cal64 (And.intro @cal65 (And.intro @cal66 (And.intro @cal67 (And.intro @cal68 (And.intro @cal69 (And.intro @cal70 (And.intro @cal71 (And.intro @cal72 (And.intro @cal73 (And.intro @cal74 (And.intro @cal75 (And.intro @cal76 (And.intro @cal77 (And.intro @cal78 (And.intro @cal79 (And.intro @cal80 (And.intro @cal81 (And.intro @cal82 (And.intro @cal83 (And.intro @cal84 (And.intro @cal85 (And.intro @cal86 (And.intro @cal87 (And.intro @cal88 (And.intro @cal89 (And.intro @cal90 (And.intro @cal91 (And.intro @cal92 (And.intro @cal93 (And.intro @cal94 (And.intro @cal95 (And.intro @cal96 (And.intro @cal97 (And.intro @cal99 (And.intro @cal100 (And.intro @cal101 (And.intro @cal102 (And.intro @cal103 (@cal104)))))))))))))))))))))))))))))))))))))))))))))))))))))))))))))))))))))))))))))))))))))))))))))))))))
theorem tyS4 : type_of% (And.intro @cal105 (And.intro @cal106 (And.intro @cal107 (And.intro @cal108 (And.intro @cal109 (And.intro @cal110 (And.intro @cal111 (And.intro @cal112 (And.intro @cal113 (And.intro @cal114 (And.intro @cal115 (And.intro @cal116 (And.intro @cal117 (And.intro @cal119 (And.intro @cal120 (And.intro @cal121 (And.intro @cal122 (And.intro @cal123 (And.intro @cal124 (And.intro @cal125 (And.intro @cal126 (And.intro @cal127 (And.intro @cal128 (And.intro @cal129 (And.intro @cal130 (And.intro @cal132 (And.intro @cal133 (And.intro @cal134 (And.intro @cal135 (And.intro @cal136 (And.intro @cal159 (And.intro @cal0 (And.intro @cal1 (And.intro @cal98 (And.intro @cal118 (And.intro @cal131 (And.intro @cal137 (And.intro @cal138 (And.intro @cal139 (And.intro @cal140 (And.intro @cal141 (And.intro @cal142 (And.intro @cal143 (And.intro @cal144 (And.intro @cal145 (And.intro @cal146 (And.intro @cal147 (And.intro @cal148 (And.intro @cal149 (And.intro @cal150 (And.intro @cal151 (And.intro @cal152 (And.intro @cal153 (And.intro @cal154 (And.intro @cal155 (And.intro @cal156 (And.intro @cal157 (And.intro @cal158 (And.intro @Tryz.underlying2 (And.intro @Tryz.underlying3 (And.intro @Tryz.underlying4 (And.intro @Tryz.underlying5 (And.intro @Tryz.underlying6 (And.intro @Tryz.underlying7 (And.intro @Tryz.underlying8 (And.intro @Tryz.underlying9 (And.intro @Tryz.underlying10 (And.intro @Tryz.underlying11 (And.intro @Tryz.underlying12 (And.intro @Tryz.underlying13 (And.intro @Tryz.underlying14 (And.intro @Tryz.underlying15 (And.intro @Tryz.underlying16 (And.intro @Tryz.underlying17 (And.intro @Tryz.underlying18 (And.intro @Tryz.underlying19 (And.intro @Tryz.underlying21 (And.intro @Tryz.underlying23 (And.intro @Tryz.underlying24 (And.intro @Tryz.underlying29 (And.intro @Tryz.underlying30 (And.intro @Tryz.underlying31 (And.intro @Tryz.underlying42 (And.intro @Tryz.underlying43 (And.intro @Tryz.underlying46 (And.intro @Tryz.underlying47 (And.intro @Tryz.underlying48 (And.intro @Tryz.underlying49 (And.intro @Tryz.underlying50 (And.intro @Tryz.underlying51 (And.intro @Tryz.underlying55 (And.intro @Tryz.underlying58 (And.intro @Tryz.underlying59 (And.intro @Tryz.underlying60 (And.intro @Tryz.underlying68 (And.intro @Tryz.underlying69 (And.intro @Tryz.underlying70 (And.intro @Tryz.underlying71 (And.intro @Tryz.underlying72 (@Tryz.underlying83)))))))))))))))))))))))))))))))))))))))))))))))))))))))))))))))))))))))))))))))))))))))))))))))))))) := And.intro @cal105 (And.intro @cal106 (And.intro @cal107 (And.intro @cal108 (And.intro @cal109 (And.intro @cal110 (And.intro @cal111 (And.intro @cal112 (And.intro @cal113 (And.intro @cal114 (And.intro @cal115 (And.intro @cal116 (And.intro @cal117 (And.intro @cal119 (And.intro @cal120 (And.intro @cal121 (And.intro @cal122 (And.intro @cal123 (And.intro @cal124 (And.intro @cal125 (And.intro @cal126 (And.intro @cal127 (And.intro @cal128 (And.intro @cal129 (And.intro @cal130 (And.intro @cal132 (And.intro @cal133 (And.intro @cal134 (And.intro @cal135 (And.intro @cal136 (And.intro @cal159 (And.intro @cal0 (And.intro @cal1 (And.intro @cal98 (And.intro @cal118 (And.intro @cal131 (And.intro @cal137 (And.intro @cal138 (And.intro @cal139 (And.intro @cal140 (And.intro @cal141 (And.intro @cal142 (And.intro @cal143 (And.intro @cal144 (And.intro @cal145 (And.intro @cal146 (And.intro @cal147 (And.intro @cal148 (And.intro @cal149 (And.intro @cal150 (And.intro @cal151 (And.intro @cal152 (And.intro @cal153 (And.intro @cal154 (And.intro @cal155 (And.intro @cal156 (And.intro @cal157 (And.intro @cal158 (And.intro @Tryz.underlying2 (And.intro @Tryz.underlying3 (And.intro @Tryz.underlying4 (And.intro @Tryz.underlying5 (And.intro @Tryz.underlying6 (And.intro @Tryz.underlying7 (And.intro @Tryz.underlying8 (And.intro @Tryz.underlying9 (And.intro @Tryz.underlying10 (And.intro @Tryz.underlying11 (And.intro @Tryz.underlying12 (And.intro @Tryz.underlying13 (And.intro @Tryz.underlying14 (And.intro @Tryz.underlying15 (And.intro @Tryz.underlying16 (And.intro @Tryz.underlying17 (And.intro @Tryz.underlying18 (And.intro @Tryz.underlying19 (And.intro @Tryz.underlying21 (And.intro @Tryz.underlying23 (And.intro @Tryz.underlying24 (And.intro @Tryz.underlying29 (And.intro @Tryz.underlying30 (And.intro @Tryz.underlying31 (And.intro @Tryz.underlying42 (And.intro @Tryz.underlying43 (And.intro @Tryz.underlying46 (And.intro @Tryz.underlying47 (And.intro @Tryz.underlying48 (And.intro @Tryz.underlying49 (And.intro @Tryz.underlying50 (And.intro @Tryz.underlying51 (And.intro @Tryz.underlying55 (And.intro @Tryz.underlying58 (And.intro @Tryz.underlying59 (And.intro @Tryz.underlying60 (And.intro @Tryz.underlying68 (And.intro @Tryz.underlying69 (And.intro @Tryz.underlying70 (And.intro @Tryz.underlying71 (And.intro @Tryz.underlying72 (@Tryz.underlying83)))))))))))))))))))))))))))))))))))))))))))))))))))))))))))))))))))))))))))))))))))))))))))))))))))
theorem tyS5 : type_of% (And.intro @Tryz.underlying84 (And.intro @Tryz.underlying85 (And.intro @Tryz.underlying86 (And.intro @Tryz.underlying97 (And.intro @Tryz.underlying108 (And.intro @Tryz.underlying112 (And.intro @Tryz.underlying113 (And.intro @Tryz.underlying122 (And.intro @Tryz.underlying123 (And.intro @Tryz.underlying124 (And.intro @Tryz.underlying126 (And.intro @Tryz.underlying132 (And.intro @Tryz.underlying133 (And.intro @Tryz.underlying134 (And.intro @Tryz.underlying135 (And.intro @Tryz.underlying136 (And.intro @Tryz.underlying137 (And.intro @Tryz.underlying138 (And.intro @Tryz.underlying139 (And.intro @Tryz.underlying140 (And.intro @Tryz.underlying142 (And.intro @Tryz.underlying143 (And.intro @Tryz.underlying144 (And.intro @Tryz.underlying145 (And.intro @Tryz.results2 (And.intro @Tryz.results3 (And.intro @Tryz.results4 (And.intro @Tryz.results5 (And.intro @Tryz.results6 (And.intro @Tryz.results7 (And.intro @Tryz.results8 (And.intro @Tryz.results9 (And.intro @Tryz.results10 (And.intro @Tryz.results11 (And.intro @Tryz.results12 (And.intro @Tryz.results13 (And.intro @Tryz.results14 (And.intro @Tryz.results15 (And.intro @Tryz.results16 (And.intro @Tryz.results17 (And.intro @Tryz.results18 (And.intro @Tryz.results19 (And.intro @Tryz.results20 (And.intro @Tryz.results21 (And.intro @Tryz.results22 (And.intro @Tryz.results23 (And.intro @Tryz.results24 (And.intro @Tryz.results25 (And.intro @Tryz.results26 (And.intro @Tryz.results27 (And.intro @Tryz.results28 (And.intro @Tryz.results29 (And.intro @Tryz.results30 (And.intro @Tryz.results31 (And.intro @Tryz.results32 (And.intro @Tryz.results33 (And.intro @Tryz.results34 (And.intro @Tryz.results35 (And.intro @Tryz.results36 (And.intro @Tryz.results37 (And.intro @Tryz.results38 (And.intro @Tryz.results39 (And.intro @Tryz.results40 (And.intro @Tryz.results41 (And.intro @Tryz.results42 (And.intro @Tryz.results43 (And.intro @Tryz.results44 (And.intro @Tryz.results45 (And.intro @Tryz.results46 (And.intro @Tryz.results47 (And.intro @Tryz.results48 (And.intro @Tryz.results49 (And.intro @Tryz.results50 (And.intro @Tryz.results51 (And.intro @Tryz.results52 (And.intro @Tryz.results53 (And.intro @Tryz.results54 (And.intro @Tryz.results55 (And.intro @Tryz.results56 (And.intro @Tryz.results57 (And.intro @Tryz.results58 (And.intro @Tryz.results59 (And.intro @Tryz.results60 (And.intro @Tryz.results61 (And.intro @Tryz.results62 (And.intro @Tryz.results63 (And.intro @Tryz.results64 (And.intro @Tryz.results65 (And.intro @Tryz.results66 (And.intro @Tryz.results67 (And.intro @Tryz.results68 (And.intro @Tryz.results69 (And.intro @Tryz.results70 (And.intro @Tryz.results71 (And.intro @Tryz.results72 (And.intro @Tryz.results73 (And.intro @Tryz.results74 (And.intro @Tryz.results75 (And.intro @Tryz.results76 (@Tryz.results77)))))))))))))))))))))))))))))))))))))))))))))))))))))))))))))))))))))))))))))))))))))))))))))))))))) := And.intro @Tryz.underlying84 (And.intro @Tryz.underlying85 (And.intro @Tryz.underlying86 (And.intro @Tryz.underlying97 (And.intro @Tryz.underlying108 (And.intro @Tryz.underlying112 (And.intro @Tryz.underlying113 (And.intro @Tryz.underlying122 (And.intro @Tryz.underlying123 (And.intro @Tryz.underlying124 (And.intro @Tryz.underlying126 (And.intro @Tryz.underlying132 (And.intro @Tryz.underlying133 (And.intro @Tryz.underlying134 (And.intro @Tryz.underlying135 (And.intro @Tryz.underlying136 (And.intro @Tryz.underlying137 (And.intro @Tryz.underlying138 (And.intro @Tryz.underlying139 (And.intro @Tryz.underlying140 (And.intro @Tryz.underlying142 (And.intro @Tryz.underlying143 (And.intro @Tryz.underlying144 (And.intro @Tryz.underlying145 (And.intro @Tryz.results2 (And.intro @Tryz.results3 (And.intro @Tryz.results4 (And.intro @Tryz.results5 (And.intro @Tryz.results6 (And.intro @Tryz.results7 (And.intro @Tryz.results8 (And.intro @Tryz.results9 (And.intro @Tryz.results10 (And.intro @Tryz.results11 (And.intro @Tryz.results12 (And.intro @Tryz.results13 (And.intro @Tryz.results14 (And.intro @Tryz.results15 (And.intro @Tryz.results16 (And.intro @Tryz.results17 (And.intro @Tryz.results18 (And.intro @Tryz.results19 (And.intro @Tryz.results20 (And.intro @Tryz.results21 (And.intro @Tryz.results22 (And.intro @Tryz.results23 (And.intro @Tryz.results24 (And.intro @Tryz.results25 (And.intro @Tryz.results26 (And.intro @Tryz.results27 (And.intro @Tryz.results28 (And.intro @Tryz.results29 (And.intro @Tryz.results30 (And.intro @Tryz.results31 (And.intro @Tryz.results32 (And.intro @Tryz.results33 (And.intro @Tryz.results34 (And.intro @Tryz.results35 (And.intro @Tryz.results36 (And.intro @Tryz.results37 (And.intro @Tryz.results38 (And.intro @Tryz.results39 (And.intro @Tryz.results40 (And.intro @Tryz.results41 (And.intro @Tryz.results42 (And.intro @Tryz.results43 (And.intro @Tryz.results44 (And.intro @Tryz.results45 (And.intro @Tryz.results46 (And.intro @Tryz.results47 (And.intro @Tryz.results48 (And.intro @Tryz.results49 (And.intro @Tryz.results50 (And.intro @Tryz.results51 (And.intro @Tryz.results52 (And.intro @Tryz.results53 (And.intro @Tryz.results54 (And.intro @Tryz.results55 (And.intro @Tryz.results56 (And.intro @Tryz.results57 (And.intro @Tryz.results58 (And.intro @Tryz.results59 (And.intro @Tryz.results60 (And.intro @Tryz.results61 (And.intro @Tryz.results62 (And.intro @Tryz.results63 (And.intro @Tryz.results64 (And.intro @Tryz.results65 (And.intro @Tryz.results66 (And.intro @Tryz.results67 (And.intro @Tryz.results68 (And.intro @Tryz.results69 (And.intro @Tryz.results70 (And.intro @Tryz.results71 (And.intro @Tryz.results72 (And.intro @Tryz.results73 (And.intro @Tryz.results74 (And.intro @Tryz.results75 (And.intro @Tryz.results76 (@Tryz.results77)))))))))))))))))))))))))))))))))))))))))))))))))))))))))))))))))))))))))))))))))))))))))))))))))))
theorem tyS6 : type_of% (And.intro @Tryz.results78 (And.intro @Tryz.results79 (And.intro @Tryz.results80 (And.intro @Tryz.results81 (And.intro @Tryz.results82 (And.intro @Tryz.results83 (And.intro @Tryz.results84 (And.intro @Tryz.results85 (And.intro @Tryz.results86 (And.intro @Tryz.results87 (And.intro @Tryz.results88 (And.intro @Tryz.results89 (And.intro @Tryz.results90 (And.intro @Tryz.results91 (And.intro @Tryz.results92 (And.intro @Tryz.results93 (And.intro @Tryz.results94 (And.intro @Tryz.results95 (And.intro @Tryz.results96 (And.intro @Tryz.results97 (And.intro @Tryz.results99 (And.intro @Tryz.results100 (And.intro @Tryz.results101 (And.intro @Tryz.results102 (And.intro @Tryz.results103 (And.intro @Tryz.results104 (And.intro @Tryz.results105 (And.intro @Tryz.results106 (And.intro @Tryz.results107 (And.intro @Tryz.results108 (And.intro @Tryz.results109 (And.intro @Tryz.results110 (And.intro @Tryz.results111 (And.intro @Tryz.results112 (And.intro @Tryz.results113 (And.intro @Tryz.results114 (And.intro @Tryz.results115 (And.intro @Tryz.results116 (And.intro @Tryz.results117 (And.intro @Tryz.results119 (And.intro @Tryz.results120 (And.intro @Tryz.results121 (And.intro @Tryz.results122 (And.intro @Tryz.results123 (And.intro @Tryz.results124 (And.intro @Tryz.results125 (And.intro @Tryz.results126 (And.intro @Tryz.results127 (And.intro @Tryz.results128 (And.intro @Tryz.results129 (And.intro @Tryz.results130 (And.intro @Tryz.results132 (And.intro @Tryz.results133 (And.intro @Tryz.results134 (And.intro @Tryz.results135 (And.intro @Tryz.results136 (@Tryz.results159))))))))))))))))))))))))))))))))))))))))))))))))))))))))) := And.intro @Tryz.results78 (And.intro @Tryz.results79 (And.intro @Tryz.results80 (And.intro @Tryz.results81 (And.intro @Tryz.results82 (And.intro @Tryz.results83 (And.intro @Tryz.results84 (And.intro @Tryz.results85 (And.intro @Tryz.results86 (And.intro @Tryz.results87 (And.intro @Tryz.results88 (And.intro @Tryz.results89 (And.intro @Tryz.results90 (And.intro @Tryz.results91 (And.intro @Tryz.results92 (And.intro @Tryz.results93 (And.intro @Tryz.results94 (And.intro @Tryz.results95 (And.intro @Tryz.results96 (And.intro @Tryz.results97 (And.intro @Tryz.results99 (And.intro @Tryz.results100 (And.intro @Tryz.results101 (And.intro @Tryz.results102 (And.intro @Tryz.results103 (And.intro @Tryz.results104 (And.intro @Tryz.results105 (And.intro @Tryz.results106 (And.intro @Tryz.results107 (And.intro @Tryz.results108 (And.intro @Tryz.results109 (And.intro @Tryz.results110 (And.intro @Tryz.results111 (And.intro @Tryz.results112 (And.intro @Tryz.results113 (And.intro @Tryz.results114 (And.intro @Tryz.results115 (And.intro @Tryz.results116 (And.intro @Tryz.results117 (And.intro @Tryz.results119 (And.intro @Tryz.results120 (And.intro @Tryz.results121 (And.intro @Tryz.results122 (And.intro @Tryz.results123 (And.intro @Tryz.results124 (And.intro @Tryz.results125 (And.intro @Tryz.results126 (And.intro @Tryz.results127 (And.intro @Tryz.results128 (And.intro @Tryz.results129 (And.intro @Tryz.results130 (And.intro @Tryz.results132 (And.intro @Tryz.results133 (And.intro @Tryz.results134 (And.intro @Tryz.results135 (And.intro @Tryz.results136 (@Tryz.results159))))))))))))))))))))))))))))))))))))))))))))))))))))))))
theorem tyS : type_of% (And.intro @tyS0 (And.intro @tyS1 (And.intro @tyS2 (And.intro @tyS3 (And.intro @tyS4 (And.intro @tyS5 (@tyS6))))))) := And.intro @tyS0 (And.intro @tyS1 (And.intro @tyS2 (And.intro @tyS3 (And.intro @tyS4 (And.intro @tyS5 (@tyS6))))))
end Go.Proofs.YtgglccpckhpocaaGreatDoor
