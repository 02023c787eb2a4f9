/-
Closed facts on the types and functions of this translation.
Conditions: none.
-/
import Derived.Test.YtfphceknmgadgaaDoorProg
import Derived.Test.YtfphceknmgadgaaDoorVmEq
import Derived.KernelRfl
set_option linter.unusedSimpArgs false
set_option linter.unusedVariables false
namespace Go.Proofs.YtfphceknmgadgaaDoor
open Go.Vm
set_option maxRecDepth 100000
theorem shp2 : shp Tryd.prog 2 = some (false, 1) := by kernel_rfl
theorem zro2 : zro Tryd.prog 2 = some (.int .i64 0) := by kernel_rfl
theorem shp3 : shp Tryd.prog 3 = some (false, 1) := by kernel_rfl
theorem zro3 : zro Tryd.prog 3 = some (.int .i64 0) := by kernel_rfl
theorem shp4 : shp Tryd.prog 4 = some (false, 1) := by kernel_rfl
theorem zro4 : zro Tryd.prog 4 = some (.bool false) := by kernel_rfl
theorem shp5 : shp Tryd.prog 5 = some (false, 1) := by kernel_rfl
theorem zro5 : zro Tryd.prog 5 = some (.int .u8 0) := by kernel_rfl
theorem shp6 : shp Tryd.prog 6 = some (false, 1) := by kernel_rfl
theorem zro6 : zro Tryd.prog 6 = some (.int .u8 0) := by kernel_rfl
theorem shp7 : shp Tryd.prog 7 = some (true, 4) := by kernel_rfl
theorem fld7n0 : fld Tryd.prog 7 0 = some (0, false, 1) := by kernel_rfl
theorem fld7n1 : fld Tryd.prog 7 1 = some (1, false, 1) := by kernel_rfl
theorem fld7n2 : fld Tryd.prog 7 2 = some (2, false, 1) := by kernel_rfl
theorem fld7n3 : fld Tryd.prog 7 3 = some (3, false, 1) := by kernel_rfl
theorem bok7 : bldOk Tryd.prog 7 = true := by kernel_rfl
theorem zro7 : zro Tryd.prog 7 = some (.agg #[.int .i64 0, .int .i64 0, .bool false, .int .u8 0]) := by kernel_rfl
theorem shp8 : shp Tryd.prog 8 = some (true, 4) := by kernel_rfl
theorem fld8n0 : fld Tryd.prog 8 0 = some (0, false, 1) := by kernel_rfl
theorem fld8n1 : fld Tryd.prog 8 1 = some (1, false, 1) := by kernel_rfl
theorem fld8n2 : fld Tryd.prog 8 2 = some (2, false, 1) := by kernel_rfl
theorem fld8n3 : fld Tryd.prog 8 3 = some (3, false, 1) := by kernel_rfl
theorem bok8 : bldOk Tryd.prog 8 = true := by kernel_rfl
theorem zro8 : zro Tryd.prog 8 = some (.agg #[.int .i64 0, .int .i64 0, .bool false, .int .u8 0]) := by kernel_rfl
theorem shp9 : shp Tryd.prog 9 = some (false, 1) := by kernel_rfl
theorem zro9 : zro Tryd.prog 9 = some (.string ⟨#[]⟩) := by kernel_rfl
theorem shp10 : shp Tryd.prog 10 = some (false, 1) := by kernel_rfl
theorem zro10 : zro Tryd.prog 10 = some (.string ⟨#[]⟩) := by kernel_rfl
theorem shp11 : shp Tryd.prog 11 = some (false, 1) := by kernel_rfl
theorem zro11 : zro Tryd.prog 11 = some (.string ⟨#[]⟩) := by kernel_rfl
theorem shp12 : shp Tryd.prog 12 = some (false, 1) := by kernel_rfl
theorem zro12 : zro Tryd.prog 12 = some (.int .u64 0) := by kernel_rfl
theorem shp13 : shp Tryd.prog 13 = some (true, 2) := by kernel_rfl
theorem fld13n0 : fld Tryd.prog 13 0 = some (0, false, 1) := by kernel_rfl
theorem fld13n1 : fld Tryd.prog 13 1 = some (1, false, 1) := by kernel_rfl
theorem bok13 : bldOk Tryd.prog 13 = true := by kernel_rfl
theorem zro13 : zro Tryd.prog 13 = some (.agg #[.string ⟨#[]⟩, .int .u64 0]) := by kernel_rfl
theorem shp14 : shp Tryd.prog 14 = some (true, 2) := by kernel_rfl
theorem fld14n0 : fld Tryd.prog 14 0 = some (0, false, 1) := by kernel_rfl
theorem fld14n1 : fld Tryd.prog 14 1 = some (1, false, 1) := by kernel_rfl
theorem bok14 : bldOk Tryd.prog 14 = true := by kernel_rfl
theorem zro14 : zro Tryd.prog 14 = some (.agg #[.string ⟨#[]⟩, .int .u64 0]) := by kernel_rfl
theorem shp15 : shp Tryd.prog 15 = some (false, 1) := by kernel_rfl
theorem zro15 : zro Tryd.prog 15 = some (.pointer none) := by kernel_rfl
theorem shp16 : shp Tryd.prog 16 = some (false, 1) := by kernel_rfl
theorem zro16 : zro Tryd.prog 16 = some (.pointer none) := by kernel_rfl
theorem shp17 : shp Tryd.prog 17 = some (false, 1) := by kernel_rfl
theorem zro17 : zro Tryd.prog 17 = some (.pointer none) := by kernel_rfl
theorem shp18 : shp Tryd.prog 18 = some (true, 1) := by kernel_rfl
theorem fld18n0 : fld Tryd.prog 18 0 = some (0, false, 1) := by kernel_rfl
theorem bok18 : bldOk Tryd.prog 18 = true := by kernel_rfl
theorem zro18 : zro Tryd.prog 18 = some (.agg #[.pointer none]) := by kernel_rfl
theorem shp19 : shp Tryd.prog 19 = some (true, 1) := by kernel_rfl
theorem fld19n0 : fld Tryd.prog 19 0 = some (0, false, 1) := by kernel_rfl
theorem bok19 : bldOk Tryd.prog 19 = true := by kernel_rfl
theorem zro19 : zro Tryd.prog 19 = some (.agg #[.pointer none]) := by kernel_rfl
theorem shp20 : shp Tryd.prog 20 = some (false, 1) := by kernel_rfl
theorem zro20 : zro Tryd.prog 20 = some (.nilIface) := by kernel_rfl
theorem shp21 : shp Tryd.prog 21 = some (false, 1) := by kernel_rfl
theorem zro21 : zro Tryd.prog 21 = some (.int .i32 0) := by kernel_rfl
theorem shp23 : shp Tryd.prog 23 = some (false, 1) := by kernel_rfl
theorem zro23 : zro Tryd.prog 23 = some (.slice none 0 0) := by kernel_rfl
theorem slc23 : slc Tryd.prog 23 = some (9, 1, 16) := by kernel_rfl
theorem shp24 : shp Tryd.prog 24 = some (false, 1) := by kernel_rfl
theorem zro24 : zro Tryd.prog 24 = some (.slice none 0 0) := by kernel_rfl
theorem slc24 : slc Tryd.prog 24 = some (36, 10, 120) := by kernel_rfl
theorem shp25 : shp Tryd.prog 25 = some (false, 1) := by kernel_rfl
theorem zro25 : zro Tryd.prog 25 = some (.int .i64 0) := by kernel_rfl
theorem shp32 : shp Tryd.prog 32 = some (false, 1) := by kernel_rfl
theorem zro32 : zro Tryd.prog 32 = some (.slice none 0 0) := by kernel_rfl
theorem slc32 : slc Tryd.prog 32 = some (34, 5, 72) := by kernel_rfl
theorem shp33 : shp Tryd.prog 33 = some (true, 5) := by kernel_rfl
theorem fld33n0 : fld Tryd.prog 33 0 = some (0, false, 1) := by kernel_rfl
theorem fld33n1 : fld Tryd.prog 33 1 = some (1, false, 1) := by kernel_rfl
theorem fld33n2 : fld Tryd.prog 33 2 = some (2, false, 1) := by kernel_rfl
theorem fld33n3 : fld Tryd.prog 33 3 = some (3, false, 1) := by kernel_rfl
theorem fld33n4 : fld Tryd.prog 33 4 = some (4, false, 1) := by kernel_rfl
theorem bok33 : bldOk Tryd.prog 33 = true := by kernel_rfl
theorem sih33 : Tryd.prog.stoodInHeld 33 = false := by kernel_rfl
theorem egt33 : Tryd.prog.eqGuardType Tryd.prog.depth 33 = false := by kernel_rfl
theorem zro33 : zro Tryd.prog 33 = some (.agg #[.int .i64 0, .string ⟨#[]⟩, .string ⟨#[]⟩, .int .i64 0, .slice none 0 0]) := by kernel_rfl
theorem shp34 : shp Tryd.prog 34 = some (true, 5) := by kernel_rfl
theorem fld34n0 : fld Tryd.prog 34 0 = some (0, false, 1) := by kernel_rfl
theorem fld34n1 : fld Tryd.prog 34 1 = some (1, false, 1) := by kernel_rfl
theorem fld34n2 : fld Tryd.prog 34 2 = some (2, false, 1) := by kernel_rfl
theorem fld34n3 : fld Tryd.prog 34 3 = some (3, false, 1) := by kernel_rfl
theorem fld34n4 : fld Tryd.prog 34 4 = some (4, false, 1) := by kernel_rfl
theorem bok34 : bldOk Tryd.prog 34 = true := by kernel_rfl
theorem sih34 : Tryd.prog.stoodInHeld 34 = false := by kernel_rfl
theorem egt34 : Tryd.prog.eqGuardType Tryd.prog.depth 34 = false := by kernel_rfl
theorem zro34 : zro Tryd.prog 34 = some (.agg #[.int .i64 0, .string ⟨#[]⟩, .string ⟨#[]⟩, .int .i64 0, .slice none 0 0]) := by kernel_rfl
theorem shp35 : shp Tryd.prog 35 = some (true, 10) := by kernel_rfl
theorem fld35n0 : fld Tryd.prog 35 0 = some (0, false, 1) := by kernel_rfl
theorem fld35n1 : fld Tryd.prog 35 1 = some (1, true, 5) := by kernel_rfl
theorem fld35n2 : fld Tryd.prog 35 2 = some (6, false, 1) := by kernel_rfl
theorem fld35n3 : fld Tryd.prog 35 3 = some (7, false, 1) := by kernel_rfl
theorem fld35n4 : fld Tryd.prog 35 4 = some (8, false, 1) := by kernel_rfl
theorem fld35n5 : fld Tryd.prog 35 5 = some (9, false, 1) := by kernel_rfl
theorem bok35 : bldOk Tryd.prog 35 = true := by kernel_rfl
theorem sih35 : Tryd.prog.stoodInHeld 35 = false := by kernel_rfl
theorem egt35 : Tryd.prog.eqGuardType Tryd.prog.depth 35 = false := by kernel_rfl
theorem zro35 : zro Tryd.prog 35 = some (.agg #[.string ⟨#[]⟩, .int .i64 0, .string ⟨#[]⟩, .string ⟨#[]⟩, .int .i64 0, .slice none 0 0, .int .i64 0, .int .i64 0, .int .i64 0, .int .i64 0]) := by kernel_rfl
theorem shp36 : shp Tryd.prog 36 = some (true, 10) := by kernel_rfl
theorem fld36n0 : fld Tryd.prog 36 0 = some (0, false, 1) := by kernel_rfl
theorem fld36n1 : fld Tryd.prog 36 1 = some (1, true, 5) := by kernel_rfl
theorem fld36n2 : fld Tryd.prog 36 2 = some (6, false, 1) := by kernel_rfl
theorem fld36n3 : fld Tryd.prog 36 3 = some (7, false, 1) := by kernel_rfl
theorem fld36n4 : fld Tryd.prog 36 4 = some (8, false, 1) := by kernel_rfl
theorem fld36n5 : fld Tryd.prog 36 5 = some (9, false, 1) := by kernel_rfl
theorem bok36 : bldOk Tryd.prog 36 = true := by kernel_rfl
theorem sih36 : Tryd.prog.stoodInHeld 36 = false := by kernel_rfl
theorem egt36 : Tryd.prog.eqGuardType Tryd.prog.depth 36 = false := by kernel_rfl
theorem zro36 : zro Tryd.prog 36 = some (.agg #[.string ⟨#[]⟩, .int .i64 0, .string ⟨#[]⟩, .string ⟨#[]⟩, .int .i64 0, .slice none 0 0, .int .i64 0, .int .i64 0, .int .i64 0, .int .i64 0]) := by kernel_rfl
theorem shp38 : shp Tryd.prog 38 = some (true, 2) := by kernel_rfl
theorem fld38n0 : fld Tryd.prog 38 0 = some (0, false, 1) := by kernel_rfl
theorem fld38n1 : fld Tryd.prog 38 1 = some (1, false, 1) := by kernel_rfl
theorem bok38 : bldOk Tryd.prog 38 = true := by kernel_rfl
theorem sih38 : Tryd.prog.stoodInHeld 38 = false := by kernel_rfl
theorem egt38 : Tryd.prog.eqGuardType Tryd.prog.depth 38 = false := by kernel_rfl
theorem zro38 : zro Tryd.prog 38 = some (.agg #[.int .i64 0, .int .i64 0]) := by kernel_rfl
theorem shp39 : shp Tryd.prog 39 = some (true, 2) := by kernel_rfl
theorem fld39n0 : fld Tryd.prog 39 0 = some (0, false, 1) := by kernel_rfl
theorem fld39n1 : fld Tryd.prog 39 1 = some (1, false, 1) := by kernel_rfl
theorem bok39 : bldOk Tryd.prog 39 = true := by kernel_rfl
theorem sih39 : Tryd.prog.stoodInHeld 39 = false := by kernel_rfl
theorem egt39 : Tryd.prog.eqGuardType Tryd.prog.depth 39 = false := by kernel_rfl
theorem zro39 : zro Tryd.prog 39 = some (.agg #[.int .i64 0, .int .i64 0]) := by kernel_rfl
theorem shp42 : shp Tryd.prog 42 = some (false, 1) := by kernel_rfl
theorem zro42 : zro Tryd.prog 42 = some (.slice none 0 0) := by kernel_rfl
theorem slc42 : slc Tryd.prog 42 = some (49, 4, 40) := by kernel_rfl
theorem shp45 : shp Tryd.prog 45 = some (false, 1) := by kernel_rfl
theorem zro45 : zro Tryd.prog 45 = some (.pointer none) := by kernel_rfl
theorem shp46 : shp Tryd.prog 46 = some (true, 5) := by kernel_rfl
theorem fld46n0 : fld Tryd.prog 46 0 = some (0, false, 1) := by kernel_rfl
theorem fld46n1 : fld Tryd.prog 46 1 = some (1, false, 1) := by kernel_rfl
theorem fld46n2 : fld Tryd.prog 46 2 = some (2, false, 1) := by kernel_rfl
theorem fld46n3 : fld Tryd.prog 46 3 = some (3, false, 1) := by kernel_rfl
theorem fld46n4 : fld Tryd.prog 46 4 = some (4, false, 1) := by kernel_rfl
theorem bok46 : bldOk Tryd.prog 46 = true := by kernel_rfl
theorem sih46 : Tryd.prog.stoodInHeld 46 = false := by kernel_rfl
theorem egt46 : Tryd.prog.eqGuardType Tryd.prog.depth 46 = false := by kernel_rfl
theorem zro46 : zro Tryd.prog 46 = some (.agg #[.string ⟨#[]⟩, .string ⟨#[]⟩, .slice none 0 0, .int .i64 0, .slice none 0 0]) := by kernel_rfl
theorem shp47 : shp Tryd.prog 47 = some (true, 5) := by kernel_rfl
theorem fld47n0 : fld Tryd.prog 47 0 = some (0, false, 1) := by kernel_rfl
theorem fld47n1 : fld Tryd.prog 47 1 = some (1, false, 1) := by kernel_rfl
theorem fld47n2 : fld Tryd.prog 47 2 = some (2, false, 1) := by kernel_rfl
theorem fld47n3 : fld Tryd.prog 47 3 = some (3, false, 1) := by kernel_rfl
theorem fld47n4 : fld Tryd.prog 47 4 = some (4, false, 1) := by kernel_rfl
theorem bok47 : bldOk Tryd.prog 47 = true := by kernel_rfl
theorem sih47 : Tryd.prog.stoodInHeld 47 = false := by kernel_rfl
theorem egt47 : Tryd.prog.eqGuardType Tryd.prog.depth 47 = false := by kernel_rfl
theorem zro47 : zro Tryd.prog 47 = some (.agg #[.string ⟨#[]⟩, .string ⟨#[]⟩, .slice none 0 0, .int .i64 0, .slice none 0 0]) := by kernel_rfl
theorem shp48 : shp Tryd.prog 48 = some (true, 4) := by kernel_rfl
theorem fld48n0 : fld Tryd.prog 48 0 = some (0, false, 1) := by kernel_rfl
theorem fld48n1 : fld Tryd.prog 48 1 = some (1, false, 1) := by kernel_rfl
theorem fld48n2 : fld Tryd.prog 48 2 = some (2, false, 1) := by kernel_rfl
theorem fld48n3 : fld Tryd.prog 48 3 = some (3, false, 1) := by kernel_rfl
theorem bok48 : bldOk Tryd.prog 48 = true := by kernel_rfl
theorem sih48 : Tryd.prog.stoodInHeld 48 = false := by kernel_rfl
theorem egt48 : Tryd.prog.eqGuardType Tryd.prog.depth 48 = false := by kernel_rfl
theorem zro48 : zro Tryd.prog 48 = some (.agg #[.int .i64 0, .string ⟨#[]⟩, .int .i64 0, .int .i64 0]) := by kernel_rfl
theorem shp49 : shp Tryd.prog 49 = some (true, 4) := by kernel_rfl
theorem fld49n0 : fld Tryd.prog 49 0 = some (0, false, 1) := by kernel_rfl
theorem fld49n1 : fld Tryd.prog 49 1 = some (1, false, 1) := by kernel_rfl
theorem fld49n2 : fld Tryd.prog 49 2 = some (2, false, 1) := by kernel_rfl
theorem fld49n3 : fld Tryd.prog 49 3 = some (3, false, 1) := by kernel_rfl
theorem bok49 : bldOk Tryd.prog 49 = true := by kernel_rfl
theorem sih49 : Tryd.prog.stoodInHeld 49 = false := by kernel_rfl
theorem egt49 : Tryd.prog.eqGuardType Tryd.prog.depth 49 = false := by kernel_rfl
theorem zro49 : zro Tryd.prog 49 = some (.agg #[.int .i64 0, .string ⟨#[]⟩, .int .i64 0, .int .i64 0]) := by kernel_rfl
theorem shp58 : shp Tryd.prog 58 = some (false, 1) := by kernel_rfl
theorem zro58 : zro Tryd.prog 58 = some (.slice none 0 0) := by kernel_rfl
theorem slc58 : slc Tryd.prog 58 = some (5, 1, 1) := by kernel_rfl
theorem shp88 : shp Tryd.prog 88 = some (false, 1) := by kernel_rfl
theorem zro88 : zro Tryd.prog 88 = some (.pointer none) := by kernel_rfl
theorem shp90 : shp Tryd.prog 90 = some (false, 1) := by kernel_rfl
theorem zro90 : zro Tryd.prog 90 = some (.int .u64 0) := by kernel_rfl
theorem shp91 : shp Tryd.prog 91 = some (true, 24) := by kernel_rfl
theorem bok91 : bldOk Tryd.prog 91 = false := by kernel_rfl
theorem zro91 : zro Tryd.prog 91 = some (.agg #[.int .u8 0, .int .u8 0, .int .u8 0, .int .u8 0, .int .u8 0, .int .u8 0, .int .u8 0, .int .u8 0, .int .u8 0, .int .u8 0, .int .u8 0, .int .u8 0, .int .u8 0, .int .u8 0, .int .u8 0, .int .u8 0, .int .u8 0, .int .u8 0, .int .u8 0, .int .u8 0, .int .u8 0, .int .u8 0, .int .u8 0, .int .u8 0]) := by kernel_rfl
theorem shp92 : shp Tryd.prog 92 = some (false, 1) := by kernel_rfl
theorem zro92 : zro Tryd.prog 92 = some (.int .u64 0) := by kernel_rfl
theorem shp98 : shp Tryd.prog 98 = some (false, 1) := by kernel_rfl
theorem zro98 : zro Tryd.prog 98 = some (.pointer none) := by kernel_rfl
theorem shp101 : shp Tryd.prog 101 = some (true, 2) := by kernel_rfl
theorem fld101n0 : fld Tryd.prog 101 0 = some (0, false, 1) := by kernel_rfl
theorem fld101n1 : fld Tryd.prog 101 1 = some (1, false, 1) := by kernel_rfl
theorem bok101 : bldOk Tryd.prog 101 = true := by kernel_rfl
theorem sih101 : Tryd.prog.stoodInHeld 101 = false := by kernel_rfl
theorem egt101 : Tryd.prog.eqGuardType Tryd.prog.depth 101 = false := by kernel_rfl
theorem zro101 : zro Tryd.prog 101 = some (.agg #[.int .i64 0, .int .i64 0]) := by kernel_rfl
theorem shp102 : shp Tryd.prog 102 = some (true, 2) := by kernel_rfl
theorem fld102n0 : fld Tryd.prog 102 0 = some (0, false, 1) := by kernel_rfl
theorem fld102n1 : fld Tryd.prog 102 1 = some (1, false, 1) := by kernel_rfl
theorem bok102 : bldOk Tryd.prog 102 = true := by kernel_rfl
theorem sih102 : Tryd.prog.stoodInHeld 102 = false := by kernel_rfl
theorem egt102 : Tryd.prog.eqGuardType Tryd.prog.depth 102 = false := by kernel_rfl
theorem zro102 : zro Tryd.prog 102 = some (.agg #[.int .i64 0, .int .i64 0]) := by kernel_rfl
theorem shp103 : shp Tryd.prog 103 = some (true, 1) := by kernel_rfl
theorem fld103n0 : fld Tryd.prog 103 0 = some (0, false, 1) := by kernel_rfl
theorem bok103 : bldOk Tryd.prog 103 = true := by kernel_rfl
theorem sih103 : Tryd.prog.stoodInHeld 103 = false := by kernel_rfl
theorem egt103 : Tryd.prog.eqGuardType Tryd.prog.depth 103 = false := by kernel_rfl
theorem zro103 : zro Tryd.prog 103 = some (.agg #[.pointer none]) := by kernel_rfl
theorem shp104 : shp Tryd.prog 104 = some (true, 1) := by kernel_rfl
theorem fld104n0 : fld Tryd.prog 104 0 = some (0, false, 1) := by kernel_rfl
theorem bok104 : bldOk Tryd.prog 104 = true := by kernel_rfl
theorem sih104 : Tryd.prog.stoodInHeld 104 = false := by kernel_rfl
theorem egt104 : Tryd.prog.eqGuardType Tryd.prog.depth 104 = false := by kernel_rfl
theorem zro104 : zro Tryd.prog 104 = some (.agg #[.pointer none]) := by kernel_rfl
theorem shp106 : shp Tryd.prog 106 = some (false, 1) := by kernel_rfl
theorem zro106 : zro Tryd.prog 106 = some (.int .u32 0) := by kernel_rfl
theorem shp110 : shp Tryd.prog 110 = some (true, 20) := by kernel_rfl
theorem bok110 : bldOk Tryd.prog 110 = false := by kernel_rfl
theorem zro110 : zro Tryd.prog 110 = some (.agg #[.int .u64 0, .int .u64 0, .int .u64 0, .int .u64 0, .int .u64 0, .int .u64 0, .int .u64 0, .int .u64 0, .int .u64 0, .int .u64 0, .int .u64 0, .int .u64 0, .int .u64 0, .int .u64 0, .int .u64 0, .int .u64 0, .int .u64 0, .int .u64 0, .int .u64 0, .int .u64 0]) := by kernel_rfl
theorem shp111 : shp Tryd.prog 111 = some (true, 65) := by kernel_rfl
theorem bok111 : bldOk Tryd.prog 111 = false := by kernel_rfl
theorem zro111 : zro Tryd.prog 111 = some (.agg #[.int .u8 0, .int .u8 0, .int .u8 0, .int .u8 0, .int .u8 0, .int .u8 0, .int .u8 0, .int .u8 0, .int .u8 0, .int .u8 0, .int .u8 0, .int .u8 0, .int .u8 0, .int .u8 0, .int .u8 0, .int .u8 0, .int .u8 0, .int .u8 0, .int .u8 0, .int .u8 0, .int .u8 0, .int .u8 0, .int .u8 0, .int .u8 0, .int .u8 0, .int .u8 0, .int .u8 0, .int .u8 0, .int .u8 0, .int .u8 0, .int .u8 0, .int .u8 0, .int .u8 0, .int .u8 0, .int .u8 0, .int .u8 0, .int .u8 0, .int .u8 0, .int .u8 0, .int .u8 0, .int .u8 0, .int .u8 0, .int .u8 0, .int .u8 0, .int .u8 0, .int .u8 0, .int .u8 0, .int .u8 0, .int .u8 0, .int .u8 0, .int .u8 0, .int .u8 0, .int .u8 0, .int .u8 0, .int .u8 0, .int .u8 0, .int .u8 0, .int .u8 0, .int .u8 0, .int .u8 0, .int .u8 0, .int .u8 0, .int .u8 0, .int .u8 0, .int .u8 0]) := by kernel_rfl
theorem shp115 : shp Tryd.prog 115 = some (true, 2) := by kernel_rfl
theorem fld115n0 : fld Tryd.prog 115 0 = some (0, false, 1) := by kernel_rfl
theorem fld115n1 : fld Tryd.prog 115 1 = some (1, false, 1) := by kernel_rfl
theorem bok115 : bldOk Tryd.prog 115 = true := by kernel_rfl
theorem sih115 : Tryd.prog.stoodInHeld 115 = false := by kernel_rfl
theorem egt115 : Tryd.prog.eqGuardType Tryd.prog.depth 115 = false := by kernel_rfl
theorem zro115 : zro Tryd.prog 115 = some (.agg #[.slice none 0 0, .int .i64 0]) := by kernel_rfl
theorem shp116 : shp Tryd.prog 116 = some (true, 2) := by kernel_rfl
theorem fld116n0 : fld Tryd.prog 116 0 = some (0, false, 1) := by kernel_rfl
theorem fld116n1 : fld Tryd.prog 116 1 = some (1, false, 1) := by kernel_rfl
theorem bok116 : bldOk Tryd.prog 116 = true := by kernel_rfl
theorem sih116 : Tryd.prog.stoodInHeld 116 = false := by kernel_rfl
theorem egt116 : Tryd.prog.eqGuardType Tryd.prog.depth 116 = false := by kernel_rfl
theorem zro116 : zro Tryd.prog 116 = some (.agg #[.slice none 0 0, .int .i64 0]) := by kernel_rfl
theorem shp120 : shp Tryd.prog 120 = some (true, 32) := by kernel_rfl
theorem bok120 : bldOk Tryd.prog 120 = false := by kernel_rfl
theorem zro120 : zro Tryd.prog 120 = some (.agg #[.int .u8 0, .int .u8 0, .int .u8 0, .int .u8 0, .int .u8 0, .int .u8 0, .int .u8 0, .int .u8 0, .int .u8 0, .int .u8 0, .int .u8 0, .int .u8 0, .int .u8 0, .int .u8 0, .int .u8 0, .int .u8 0, .int .u8 0, .int .u8 0, .int .u8 0, .int .u8 0, .int .u8 0, .int .u8 0, .int .u8 0, .int .u8 0, .int .u8 0, .int .u8 0, .int .u8 0, .int .u8 0, .int .u8 0, .int .u8 0, .int .u8 0, .int .u8 0]) := by kernel_rfl
theorem shp121 : shp Tryd.prog 121 = some (true, 64) := by kernel_rfl
theorem bok121 : bldOk Tryd.prog 121 = false := by kernel_rfl
theorem zro121 : zro Tryd.prog 121 = some (.agg #[.int .u8 0, .int .u8 0, .int .u8 0, .int .u8 0, .int .u8 0, .int .u8 0, .int .u8 0, .int .u8 0, .int .u8 0, .int .u8 0, .int .u8 0, .int .u8 0, .int .u8 0, .int .u8 0, .int .u8 0, .int .u8 0, .int .u8 0, .int .u8 0, .int .u8 0, .int .u8 0, .int .u8 0, .int .u8 0, .int .u8 0, .int .u8 0, .int .u8 0, .int .u8 0, .int .u8 0, .int .u8 0, .int .u8 0, .int .u8 0, .int .u8 0, .int .u8 0, .int .u8 0, .int .u8 0, .int .u8 0, .int .u8 0, .int .u8 0, .int .u8 0, .int .u8 0, .int .u8 0, .int .u8 0, .int .u8 0, .int .u8 0, .int .u8 0, .int .u8 0, .int .u8 0, .int .u8 0, .int .u8 0, .int .u8 0, .int .u8 0, .int .u8 0, .int .u8 0, .int .u8 0, .int .u8 0, .int .u8 0, .int .u8 0, .int .u8 0, .int .u8 0, .int .u8 0, .int .u8 0, .int .u8 0, .int .u8 0, .int .u8 0, .int .u8 0]) := by kernel_rfl
theorem shp125 : shp Tryd.prog 125 = some (true, 4) := by kernel_rfl
theorem fld125n0 : fld Tryd.prog 125 0 = some (0, false, 1) := by kernel_rfl
theorem fld125n1 : fld Tryd.prog 125 1 = some (1, false, 1) := by kernel_rfl
theorem fld125n2 : fld Tryd.prog 125 2 = some (2, false, 1) := by kernel_rfl
theorem fld125n3 : fld Tryd.prog 125 3 = some (3, false, 1) := by kernel_rfl
theorem bok125 : bldOk Tryd.prog 125 = true := by kernel_rfl
theorem zro125 : zro Tryd.prog 125 = some (.agg #[.pointer none, .pointer none, .pointer none, .string ⟨#[]⟩]) := by kernel_rfl
theorem shp126 : shp Tryd.prog 126 = some (true, 4) := by kernel_rfl
theorem fld126n0 : fld Tryd.prog 126 0 = some (0, false, 1) := by kernel_rfl
theorem fld126n1 : fld Tryd.prog 126 1 = some (1, false, 1) := by kernel_rfl
theorem fld126n2 : fld Tryd.prog 126 2 = some (2, false, 1) := by kernel_rfl
theorem fld126n3 : fld Tryd.prog 126 3 = some (3, false, 1) := by kernel_rfl
theorem bok126 : bldOk Tryd.prog 126 = true := by kernel_rfl
theorem zro126 : zro Tryd.prog 126 = some (.agg #[.pointer none, .pointer none, .pointer none, .string ⟨#[]⟩]) := by kernel_rfl
theorem shp127 : shp Tryd.prog 127 = some (true, 0) := by kernel_rfl
theorem bok127 : bldOk Tryd.prog 127 = false := by kernel_rfl
theorem zro127 : zro Tryd.prog 127 = some (.agg #[]) := by kernel_rfl
theorem shp128 : shp Tryd.prog 128 = some (true, 0) := by kernel_rfl
theorem fld128n0 : fld Tryd.prog 128 0 = some (0, true, 0) := by kernel_rfl
theorem bok128 : bldOk Tryd.prog 128 = true := by kernel_rfl
theorem zro128 : zro Tryd.prog 128 = some (.agg #[]) := by kernel_rfl
theorem shp129 : shp Tryd.prog 129 = some (true, 0) := by kernel_rfl
theorem fld129n0 : fld Tryd.prog 129 0 = some (0, true, 0) := by kernel_rfl
theorem bok129 : bldOk Tryd.prog 129 = true := by kernel_rfl
theorem zro129 : zro Tryd.prog 129 = some (.agg #[]) := by kernel_rfl
theorem shp130 : shp Tryd.prog 130 = some (false, 1) := by kernel_rfl
theorem zro130 : zro Tryd.prog 130 = some (.int .u8 0) := by kernel_rfl
theorem shp131 : shp Tryd.prog 131 = some (false, 1) := by kernel_rfl
theorem zro131 : zro Tryd.prog 131 = some (.int .u8 0) := by kernel_rfl
theorem shp133 : shp Tryd.prog 133 = some (false, 1) := by kernel_rfl
theorem zro133 : zro Tryd.prog 133 = some (.pointer none) := by kernel_rfl
theorem shp134 : shp Tryd.prog 134 = some (false, 1) := by kernel_rfl
theorem zro134 : zro Tryd.prog 134 = some (.int .i32 0) := by kernel_rfl
theorem shp135 : shp Tryd.prog 135 = some (false, 1) := by kernel_rfl
theorem zro135 : zro Tryd.prog 135 = some (.int .i32 0) := by kernel_rfl
theorem shp136 : shp Tryd.prog 136 = some (true, 11) := by kernel_rfl
theorem fld136n0 : fld Tryd.prog 136 0 = some (0, false, 1) := by kernel_rfl
theorem fld136n1 : fld Tryd.prog 136 1 = some (1, false, 1) := by kernel_rfl
theorem fld136n2 : fld Tryd.prog 136 2 = some (2, false, 1) := by kernel_rfl
theorem fld136n3 : fld Tryd.prog 136 3 = some (3, false, 1) := by kernel_rfl
theorem fld136n4 : fld Tryd.prog 136 4 = some (4, false, 1) := by kernel_rfl
theorem fld136n5 : fld Tryd.prog 136 5 = some (5, false, 1) := by kernel_rfl
theorem fld136n6 : fld Tryd.prog 136 6 = some (6, false, 1) := by kernel_rfl
theorem fld136n7 : fld Tryd.prog 136 7 = some (7, false, 1) := by kernel_rfl
theorem fld136n8 : fld Tryd.prog 136 8 = some (8, false, 1) := by kernel_rfl
theorem fld136n9 : fld Tryd.prog 136 9 = some (9, false, 1) := by kernel_rfl
theorem fld136n10 : fld Tryd.prog 136 10 = some (10, false, 1) := by kernel_rfl
theorem bok136 : bldOk Tryd.prog 136 = true := by kernel_rfl
theorem zro136 : zro Tryd.prog 136 = some (.agg #[.int .u64 0, .int .u64 0, .int .u32 0, .int .u8 0, .int .u8 0, .int .u8 0, .int .u8 0, .nilFunc, .pointer none, .int .i32 0, .int .i32 0]) := by kernel_rfl
theorem shp137 : shp Tryd.prog 137 = some (true, 11) := by kernel_rfl
theorem fld137n0 : fld Tryd.prog 137 0 = some (0, false, 1) := by kernel_rfl
theorem fld137n1 : fld Tryd.prog 137 1 = some (1, false, 1) := by kernel_rfl
theorem fld137n2 : fld Tryd.prog 137 2 = some (2, false, 1) := by kernel_rfl
theorem fld137n3 : fld Tryd.prog 137 3 = some (3, false, 1) := by kernel_rfl
theorem fld137n4 : fld Tryd.prog 137 4 = some (4, false, 1) := by kernel_rfl
theorem fld137n5 : fld Tryd.prog 137 5 = some (5, false, 1) := by kernel_rfl
theorem fld137n6 : fld Tryd.prog 137 6 = some (6, false, 1) := by kernel_rfl
theorem fld137n7 : fld Tryd.prog 137 7 = some (7, false, 1) := by kernel_rfl
theorem fld137n8 : fld Tryd.prog 137 8 = some (8, false, 1) := by kernel_rfl
theorem fld137n9 : fld Tryd.prog 137 9 = some (9, false, 1) := by kernel_rfl
theorem fld137n10 : fld Tryd.prog 137 10 = some (10, false, 1) := by kernel_rfl
theorem bok137 : bldOk Tryd.prog 137 = true := by kernel_rfl
theorem zro137 : zro Tryd.prog 137 = some (.agg #[.int .u64 0, .int .u64 0, .int .u32 0, .int .u8 0, .int .u8 0, .int .u8 0, .int .u8 0, .nilFunc, .pointer none, .int .i32 0, .int .i32 0]) := by kernel_rfl
theorem shp138 : shp Tryd.prog 138 = some (false, 1) := by kernel_rfl
theorem zro138 : zro Tryd.prog 138 = some (.pointer none) := by kernel_rfl
theorem cal2 : callable Tryd.prog 2 = true := by kernel_rfl
theorem cal3 : callable Tryd.prog 3 = true := by kernel_rfl
theorem cal4 : callable Tryd.prog 4 = true := by kernel_rfl
theorem cal5 : callable Tryd.prog 5 = true := by kernel_rfl
theorem cal6 : callable Tryd.prog 6 = true := by kernel_rfl
theorem cal7 : callable Tryd.prog 7 = true := by kernel_rfl
theorem cal8 : callable Tryd.prog 8 = true := by kernel_rfl
theorem cal9 : callable Tryd.prog 9 = true := by kernel_rfl
theorem cal10 : callable Tryd.prog 10 = true := by kernel_rfl
theorem cal11 : callable Tryd.prog 11 = true := by kernel_rfl
theorem cal12 : callable Tryd.prog 12 = true := by kernel_rfl
theorem cal13 : callable Tryd.prog 13 = true := by kernel_rfl
theorem cal14 : callable Tryd.prog 14 = true := by kernel_rfl
theorem cal15 : callable Tryd.prog 15 = true := by kernel_rfl
theorem cal16 : callable Tryd.prog 16 = true := by kernel_rfl
theorem cal17 : callable Tryd.prog 17 = true := by kernel_rfl
theorem cal18 : callable Tryd.prog 18 = true := by kernel_rfl
theorem cal19 : callable Tryd.prog 19 = true := by kernel_rfl
theorem cal20 : callable Tryd.prog 20 = true := by kernel_rfl
theorem cal21 : callable Tryd.prog 21 = true := by kernel_rfl
theorem cal22 : callable Tryd.prog 22 = true := by kernel_rfl
theorem cal23 : callable Tryd.prog 23 = true := by kernel_rfl
theorem cal24 : callable Tryd.prog 24 = true := by kernel_rfl
theorem cal25 : callable Tryd.prog 25 = true := by kernel_rfl
theorem cal26 : callable Tryd.prog 26 = true := by kernel_rfl
theorem cal27 : callable Tryd.prog 27 = true := by kernel_rfl
theorem cal28 : callable Tryd.prog 28 = true := by kernel_rfl
theorem cal29 : callable Tryd.prog 29 = true := by kernel_rfl
theorem cal30 : callable Tryd.prog 30 = true := by kernel_rfl
theorem cal31 : callable Tryd.prog 31 = true := by kernel_rfl
theorem cal32 : callable Tryd.prog 32 = true := by kernel_rfl
theorem cal33 : callable Tryd.prog 33 = true := by kernel_rfl
theorem cal34 : callable Tryd.prog 34 = true := by kernel_rfl
theorem cal35 : callable Tryd.prog 35 = true := by kernel_rfl
theorem cal36 : callable Tryd.prog 36 = true := by kernel_rfl
theorem cal37 : callable Tryd.prog 37 = true := by kernel_rfl
theorem cal38 : callable Tryd.prog 38 = true := by kernel_rfl
theorem cal39 : callable Tryd.prog 39 = true := by kernel_rfl
theorem cal40 : callable Tryd.prog 40 = true := by kernel_rfl
theorem cal41 : callable Tryd.prog 41 = true := by kernel_rfl
theorem cal42 : callable Tryd.prog 42 = true := by kernel_rfl
theorem cal43 : callable Tryd.prog 43 = true := by kernel_rfl
theorem cal44 : callable Tryd.prog 44 = true := by kernel_rfl
theorem cal45 : callable Tryd.prog 45 = true := by kernel_rfl
theorem cal46 : callable Tryd.prog 46 = true := by kernel_rfl
theorem cal47 : callable Tryd.prog 47 = true := by kernel_rfl
theorem cal48 : callable Tryd.prog 48 = true := by kernel_rfl
theorem cal49 : callable Tryd.prog 49 = true := by kernel_rfl
theorem cal50 : callable Tryd.prog 50 = true := by kernel_rfl
theorem cal51 : callable Tryd.prog 51 = true := by kernel_rfl
theorem cal52 : callable Tryd.prog 52 = true := by kernel_rfl
theorem cal53 : callable Tryd.prog 53 = true := by kernel_rfl
theorem cal54 : callable Tryd.prog 54 = true := by kernel_rfl
theorem cal55 : callable Tryd.prog 55 = true := by kernel_rfl
theorem cal56 : callable Tryd.prog 56 = true := by kernel_rfl
theorem cal58 : callable Tryd.prog 58 = true := by kernel_rfl
theorem cal59 : callable Tryd.prog 59 = true := by kernel_rfl
theorem cal60 : callable Tryd.prog 60 = true := by kernel_rfl
theorem cal61 : callable Tryd.prog 61 = true := by kernel_rfl
theorem cal62 : callable Tryd.prog 62 = true := by kernel_rfl
theorem cal63 : callable Tryd.prog 63 = true := by kernel_rfl
theorem cal65 : callable Tryd.prog 65 = true := by kernel_rfl
theorem cal66 : callable Tryd.prog 66 = true := by kernel_rfl
theorem cal67 : callable Tryd.prog 67 = true := by kernel_rfl
theorem cal68 : callable Tryd.prog 68 = true := by kernel_rfl
theorem cal69 : callable Tryd.prog 69 = true := by kernel_rfl
theorem cal70 : callable Tryd.prog 70 = true := by kernel_rfl
theorem cal71 : callable Tryd.prog 71 = true := by kernel_rfl
theorem cal72 : callable Tryd.prog 72 = true := by kernel_rfl
theorem cal73 : callable Tryd.prog 73 = true := by kernel_rfl
theorem cal74 : callable Tryd.prog 74 = true := by kernel_rfl
theorem cal75 : callable Tryd.prog 75 = true := by kernel_rfl
theorem cal76 : callable Tryd.prog 76 = true := by kernel_rfl
theorem cal77 : callable Tryd.prog 77 = true := by kernel_rfl
theorem cal78 : callable Tryd.prog 78 = true := by kernel_rfl
theorem cal79 : callable Tryd.prog 79 = true := by kernel_rfl
theorem cal80 : callable Tryd.prog 80 = true := by kernel_rfl
theorem cal81 : callable Tryd.prog 81 = true := by kernel_rfl
theorem cal82 : callable Tryd.prog 82 = true := by kernel_rfl
theorem cal83 : callable Tryd.prog 83 = true := by kernel_rfl
theorem cal84 : callable Tryd.prog 84 = true := by kernel_rfl
theorem cal85 : callable Tryd.prog 85 = true := by kernel_rfl
theorem cal86 : callable Tryd.prog 86 = true := by kernel_rfl
theorem cal87 : callable Tryd.prog 87 = true := by kernel_rfl
theorem cal88 : callable Tryd.prog 88 = true := by kernel_rfl
theorem cal89 : callable Tryd.prog 89 = true := by kernel_rfl
theorem cal90 : callable Tryd.prog 90 = true := by kernel_rfl
theorem cal91 : callable Tryd.prog 91 = true := by kernel_rfl
theorem cal92 : callable Tryd.prog 92 = true := by kernel_rfl
theorem cal93 : callable Tryd.prog 93 = true := by kernel_rfl
theorem cal94 : callable Tryd.prog 94 = true := by kernel_rfl
theorem cal95 : callable Tryd.prog 95 = true := by kernel_rfl
theorem cal96 : callable Tryd.prog 96 = true := by kernel_rfl
theorem cal119 : callable Tryd.prog 119 = true := by kernel_rfl
theorem cal0 : callable Tryd.prog 0 = false := by kernel_rfl
theorem cal1 : callable Tryd.prog 1 = false := by kernel_rfl
theorem cal57 : callable Tryd.prog 57 = false := by kernel_rfl
theorem cal64 : callable Tryd.prog 64 = false := by kernel_rfl
theorem cal97 : callable Tryd.prog 97 = false := by kernel_rfl
theorem cal98 : callable Tryd.prog 98 = false := by kernel_rfl
theorem cal99 : callable Tryd.prog 99 = false := by kernel_rfl
theorem cal100 : callable Tryd.prog 100 = false := by kernel_rfl
theorem cal101 : callable Tryd.prog 101 = false := by kernel_rfl
theorem cal102 : callable Tryd.prog 102 = false := by kernel_rfl
theorem cal103 : callable Tryd.prog 103 = false := by kernel_rfl
theorem cal104 : callable Tryd.prog 104 = false := by kernel_rfl
theorem cal105 : callable Tryd.prog 105 = false := by kernel_rfl
theorem cal106 : callable Tryd.prog 106 = false := by kernel_rfl
theorem cal107 : callable Tryd.prog 107 = false := by kernel_rfl
theorem cal108 : callable Tryd.prog 108 = false := by kernel_rfl
theorem cal109 : callable Tryd.prog 109 = false := by kernel_rfl
theorem cal110 : callable Tryd.prog 110 = false := by kernel_rfl
theorem cal111 : callable Tryd.prog 111 = false := by kernel_rfl
theorem cal112 : callable Tryd.prog 112 = false := by kernel_rfl
theorem cal113 : callable Tryd.prog 113 = false := by kernel_rfl
theorem cal114 : callable Tryd.prog 114 = false := by kernel_rfl
theorem cal115 : callable Tryd.prog 115 = false := by kernel_rfl
theorem cal116 : callable Tryd.prog 116 = false := by kernel_rfl
theorem cal117 : callable Tryd.prog 117 = false := by kernel_rfl
theorem cal118 : callable Tryd.prog 118 = false := by kernel_rfl
theorem tyS0 : type_of% (And.intro @shp2 (And.intro @zro2 (And.intro @shp3 (And.intro @zro3 (And.intro @shp4 (And.intro @zro4 (And.intro @shp5 (And.intro @zro5 (And.intro @shp6 (And.intro @zro6 (And.intro @shp7 (And.intro @fld7n0 (And.intro @fld7n1 (And.intro @fld7n2 (And.intro @fld7n3 (And.intro @bok7 (And.intro @zro7 (And.intro @shp8 (And.intro @fld8n0 (And.intro @fld8n1 (And.intro @fld8n2 (And.intro @fld8n3 (And.intro @bok8 (And.intro @zro8 (And.intro @shp9 (And.intro @zro9 (And.intro @shp10 (And.intro @zro10 (And.intro @shp11 (And.intro @zro11 (And.intro @shp12 (And.intro @zro12 (And.intro @shp13 (And.intro @fld13n0 (And.intro @fld13n1 (And.intro @bok13 (And.intro @zro13 (And.intro @shp14 (And.intro @fld14n0 (And.intro @fld14n1 (And.intro @bok14 (And.intro @zro14 (And.intro @shp15 (And.intro @zro15 (And.intro @shp16 (And.intro @zro16 (And.intro @shp17 (And.intro @zro17 (And.intro @shp18 (And.intro @fld18n0 (And.intro @bok18 (And.intro @zro18 (And.intro @shp19 (And.intro @fld19n0 (And.intro @bok19 (And.intro @zro19 (And.intro @shp20 (And.intro @zro20 (And.intro @shp21 (And.intro @zro21 (And.intro @shp23 (And.intro @zro23 (And.intro @slc23 (And.intro @shp24 (And.intro @zro24 (And.intro @slc24 (And.intro @shp25 (And.intro @zro25 (And.intro @shp32 (And.intro @zro32 (And.intro @slc32 (And.intro @shp33 (And.intro @fld33n0 (And.intro @fld33n1 (And.intro @fld33n2 (And.intro @fld33n3 (And.intro @fld33n4 (And.intro @bok33 (And.intro @sih33 (And.intro @egt33 (And.intro @zro33 (And.intro @shp34 (And.intro @fld34n0 (And.intro @fld34n1 (And.intro @fld34n2 (And.intro @fld34n3 (And.intro @fld34n4 (And.intro @bok34 (And.intro @sih34 (And.intro @egt34 (And.intro @zro34 (And.intro @shp35 (And.intro @fld35n0 (And.intro @fld35n1 (And.intro @fld35n2 (And.intro @fld35n3 (And.intro @fld35n4 (And.intro @fld35n5 (And.intro @bok35 (@sih35)))))))))))))))))))))))))))))))))))))))))))))))))))))))))))))))))))))))))))))))))))))))))))))))))))) := And.intro @shp2 (And.intro @zro2 (And.intro @shp3 (And.intro @zro3 (And.intro @shp4 (And.intro @zro4 (And.intro @shp5 (And.intro @zro5 (And.intro @shp6 (And.intro @zro6 (And.intro @shp7 (And.intro @fld7n0 (And.intro @fld7n1 (And.intro @fld7n2 (And.intro @fld7n3 (And.intro @bok7 (And.intro @zro7 (And.intro @shp8 (And.intro @fld8n0 (And.intro @fld8n1 (And.intro @fld8n2 (And.intro @fld8n3 (And.intro @bok8 (And.intro @zro8 (And.intro @shp9 (And.intro @zro9 (And.intro @shp10 (And.intro @zro10 (And.intro @shp11 (And.intro @zro11 (And.intro @shp12 (And.intro @zro12 (And.intro @shp13 (And.intro @fld13n0 (And.intro @fld13n1 (And.intro @bok13 (And.intro @zro13 (And.intro @shp14 (And.intro @fld14n0 (And.intro @fld14n1 (And.intro @bok14 (And.intro @zro14 (And.intro @shp15 (And.intro @zro15 (And.intro @shp16 (And.intro @zro16 (And.intro @shp17 (And.intro @zro17 (And.intro @shp18 (And.intro @fld18n0 (And.intro @bok18 (And.intro @zro18 (And.intro @shp19 (And.intro @fld19n0 (And.intro @bok19 (And.intro @zro19 (And.intro @shp20 (And.intro @zro20 (And.intro @shp21 (And.intro @zro21 (And.intro @shp23 (And.intro @zro23 (And.intro @slc23 (And.intro @shp24 (And.intro @zro24 (And.intro @slc24 (And.intro @shp25 (And.intro @zro25 (And.intro @shp32 (And.intro @zro32 (And.intro @slc32 (And.intro @shp33 (And.intro @fld33n0 (And.intro @fld33n1 (And.intro @fld33n2 (And.intro @fld33n3 (And.intro @fld33n4 (And.intro @bok33 (And.intro @sih33 (And.intro @egt33 (And.intro @zro33 (And.intro @shp34 (And.intro @fld34n0 (And.intro @fld34n1 (And.intro @fld34n2 (And.intro @fld34n3 (And.intro @fld34n4 (And.intro @bok34 (And.intro @sih34 (And.intro @egt34 (And.intro @zro34 (And.intro @shp35 (And.intro @fld35n0 (And.intro @fld35n1 (And.intro @fld35n2 (And.intro @fld35n3 (And.intro @fld35n4 (And.intro @fld35n5 (And.intro @bok35 (@sih35)))))))))))))))))))))))))))))))))))))))))))))))))))))))))))))))))))))))))))))))))))))))))))))))))))
theorem tyS1 : type_of% (And.intro @egt35 (And.intro @zro35 (And.intro @shp36 (And.intro @fld36n0 (And.intro @fld36n1 (And.intro @fld36n2 (And.intro @fld36n3 (And.intro @fld36n4 (And.intro @fld36n5 (And.intro @bok36 (And.intro @sih36 (And.intro @egt36 (And.intro @zro36 (And.intro @shp38 (And.intro @fld38n0 (And.intro @fld38n1 (And.intro @bok38 (And.intro @sih38 (And.intro @egt38 (And.intro @zro38 (And.intro @shp39 (And.intro @fld39n0 (And.intro @fld39n1 (And.intro @bok39 (And.intro @sih39 (And.intro @egt39 (And.intro @zro39 (And.intro @shp42 (And.intro @zro42 (And.intro @slc42 (And.intro @shp45 (And.intro @zro45 (And.intro @shp46 (And.intro @fld46n0 (And.intro @fld46n1 (And.intro @fld46n2 (And.intro @fld46n3 (And.intro @fld46n4 (And.intro @bok46 (And.intro @sih46 (And.intro @egt46 (And.intro @zro46 (And.intro @shp47 (And.intro @fld47n0 (And.intro @fld47n1 (And.intro @fld47n2 (And.intro @fld47n3 (And.intro @fld47n4 (And.intro @bok47 (And.intro @sih47 (And.intro @egt47 (And.intro @zro47 (And.intro @shp48 (And.intro @fld48n0 (And.intro @fld48n1 (And.intro @fld48n2 (And.intro @fld48n3 (And.intro @bok48 (And.intro @sih48 (And.intro @egt48 (And.intro @zro48 (And.intro @shp49 (And.intro @fld49n0 (And.intro @fld49n1 (And.intro @fld49n2 (And.intro @fld49n3 (And.intro @bok49 (And.intro @sih49 (And.intro @egt49 (And.intro @zro49 (And.intro @shp58 (And.intro @zro58 (And.intro @slc58 (And.intro @shp88 (And.intro @zro88 (And.intro @shp90 (And.intro @zro90 (And.intro @shp91 (And.intro @bok91 (And.intro @zro91 (And.intro @shp92 (And.intro @zro92 (And.intro @shp98 (And.intro @zro98 (And.intro @shp101 (And.intro @fld101n0 (And.intro @fld101n1 (And.intro @bok101 (And.intro @sih101 (And.intro @egt101 (And.intro @zro101 (And.intro @shp102 (And.intro @fld102n0 (And.intro @fld102n1 (And.intro @bok102 (And.intro @sih102 (And.intro @egt102 (And.intro @zro102 (And.intro @shp103 (@fld103n0)))))))))))))))))))))))))))))))))))))))))))))))))))))))))))))))))))))))))))))))))))))))))))))))))))) := And.intro @egt35 (And.intro @zro35 (And.intro @shp36 (And.intro @fld36n0 (And.intro @fld36n1 (And.intro @fld36n2 (And.intro @fld36n3 (And.intro @fld36n4 (And.intro @fld36n5 (And.intro @bok36 (And.intro @sih36 (And.intro @egt36 (And.intro @zro36 (And.intro @shp38 (And.intro @fld38n0 (And.intro @fld38n1 (And.intro @bok38 (And.intro @sih38 (And.intro @egt38 (And.intro @zro38 (And.intro @shp39 (And.intro @fld39n0 (And.intro @fld39n1 (And.intro @bok39 (And.intro @sih39 (And.intro @egt39 (And.intro @zro39 (And.intro @shp42 (And.intro @zro42 (And.intro @slc42 (And.intro @shp45 (And.intro @zro45 (And.intro @shp46 (And.intro @fld46n0 (And.intro @fld46n1 (And.intro @fld46n2 (And.intro @fld46n3 (And.intro @fld46n4 (And.intro @bok46 (And.intro @sih46 (And.intro @egt46 (And.intro @zro46 (And.intro @shp47 (And.intro @fld47n0 (And.intro @fld47n1 (And.intro @fld47n2 (And.intro @fld47n3 (And.intro @fld47n4 (And.intro @bok47 (And.intro @sih47 (And.intro @egt47 (And.intro @zro47 (And.intro @shp48 (And.intro @fld48n0 (And.intro @fld48n1 (And.intro @fld48n2 (And.intro @fld48n3 (And.intro @bok48 (And.intro @sih48 (And.intro @egt48 (And.intro @zro48 (And.intro @shp49 (And.intro @fld49n0 (And.intro @fld49n1 (And.intro @fld49n2 (And.intro @fld49n3 (And.intro @bok49 (And.intro @sih49 (And.intro @egt49 (And.intro @zro49 (And.intro @shp58 (And.intro @zro58 (And.intro @slc58 (And.intro @shp88 (And.intro @zro88 (And.intro @shp90 (And.intro @zro90 (And.intro @shp91 (And.intro @bok91 (And.intro @zro91 (And.intro @shp92 (And.intro @zro92 (And.intro @shp98 (And.intro @zro98 (And.intro @shp101 (And.intro @fld101n0 (And.intro @fld101n1 (And.intro @bok101 (And.intro @sih101 (And.intro @egt101 (And.intro @zro101 (And.intro @shp102 (And.intro @fld102n0 (And.intro @fld102n1 (And.intro @bok102 (And.intro @sih102 (And.intro @egt102 (And.intro @zro102 (And.intro @shp103 (@fld103n0)))))))))))))))))))))))))))))))))))))))))))))))))))))))))))))))))))))))))))))))))))))))))))))))))))
theorem tyS2 : type_of% (And.intro @bok103 (And.intro @sih103 (And.intro @egt103 (And.intro @zro103 (And.intro @shp104 (And.intro @fld104n0 (And.intro @bok104 (And.intro @sih104 (And.intro @egt104 (And.intro @zro104 (And.intro @shp106 (And.intro @zro106 (And.intro @shp110 (And.intro @bok110 (And.intro @zro110 (And.intro @shp111 (And.intro @bok111 (And.intro @zro111 (And.intro @shp115 (And.intro @fld115n0 (And.intro @fld115n1 (And.intro @bok115 (And.intro @sih115 (And.intro @egt115 (And.intro @zro115 (And.intro @shp116 (And.intro @fld116n0 (And.intro @fld116n1 (And.intro @bok116 (And.intro @sih116 (And.intro @egt116 (And.intro @zro116 (And.intro @shp120 (And.intro @bok120 (And.intro @zro120 (And.intro @shp121 (And.intro @bok121 (And.intro @zro121 (And.intro @shp125 (And.intro @fld125n0 (And.intro @fld125n1 (And.intro @fld125n2 (And.intro @fld125n3 (And.intro @bok125 (And.intro @zro125 (And.intro @shp126 (And.intro @fld126n0 (And.intro @fld126n1 (And.intro @fld126n2 (And.intro @fld126n3 (And.intro @bok126 (And.intro @zro126 (And.intro @shp127 (And.intro @bok127 (And.intro @zro127 (And.intro @shp128 (And.intro @fld128n0 (And.intro @bok128 (And.intro @zro128 (And.intro @shp129 (And.intro @fld129n0 (And.intro @bok129 (And.intro @zro129 (And.intro @shp130 (And.intro @zro130 (And.intro @shp131 (And.intro @zro131 (And.intro @shp133 (And.intro @zro133 (And.intro @shp134 (And.intro @zro134 (And.intro @shp135 (And.intro @zro135 (And.intro @shp136 (And.intro @fld136n0 (And.intro @fld136n1 (And.intro @fld136n2 (And.intro @fld136n3 (And.intro @fld136n4 (And.intro @fld136n5 (And.intro @fld136n6 (And.intro @fld136n7 (And.intro @fld136n8 (And.intro @fld136n9 (And.intro @fld136n10 (And.intro @bok136 (And.intro @zro136 (And.intro @shp137 (And.intro @fld137n0 (And.intro @fld137n1 (And.intro @fld137n2 (And.intro @fld137n3 (And.intro @fld137n4 (And.intro @fld137n5 (And.intro @fld137n6 (And.intro @fld137n7 (And.intro @fld137n8 (And.intro @fld137n9 (And.intro @fld137n10 (@bok137)))))))))))))))))))))))))))))))))))))))))))))))))))))))))))))))))))))))))))))))))))))))))))))))))))) := And.intro @bok103 (And.intro @sih103 (And.intro @egt103 (And.intro @zro103 (And.intro @shp104 (And.intro @fld104n0 (And.intro @bok104 (And.intro @sih104 (And.intro @egt104 (And.intro @zro104 (And.intro @shp106 (And.intro @zro106 (And.intro @shp110 (And.intro @bok110 (And.intro @zro110 (And.intro @shp111 (And.intro @bok111 (And.intro @zro111 (And.intro @shp115 (And.intro @fld115n0 (And.intro @fld115n1 (And.intro @bok115 (And.intro @sih115 (And.intro @egt115 (And.intro @zro115 (And.intro @shp116 (And.intro @fld116n0 (And.intro @fld116n1 (And.intro @bok116 (And.intro @sih116 (And.intro @egt116 (And.intro @zro116 (And.intro @shp120 (And.intro @bok120 (And.intro @zro120 (And.intro @shp121 (And.intro @bok121 (And.intro @zro121 (And.intro @shp125 (And.intro @fld125n0 (And.intro @fld125n1 (And.intro @fld125n2 (And.intro @fld125n3 (And.intro @bok125 (And.intro @zro125 (And.intro @shp126 (And.intro @fld126n0 (And.intro @fld126n1 (And.intro @fld126n2 (And.intro @fld126n3 (And.intro @bok126 (And.intro @zro126 (And.intro @shp127 (And.intro @bok127 (And.intro @zro127 (And.intro @shp128 (And.intro @fld128n0 (And.intro @bok128 (And.intro @zro128 (And.intro @shp129 (And.intro @fld129n0 (And.intro @bok129 (And.intro @zro129 (And.intro @shp130 (And.intro @zro130 (And.intro @shp131 (And.intro @zro131 (And.intro @shp133 (And.intro @zro133 (And.intro @shp134 (And.intro @zro134 (And.intro @shp135 (And.intro @zro135 (And.intro @shp136 (And.intro @fld136n0 (And.intro @fld136n1 (And.intro @fld136n2 (And.intro @fld136n3 (And.intro @fld136n4 (And.intro @fld136n5 (And.intro @fld136n6 (And.intro @fld136n7 (And.intro @fld136n8 (And.intro @fld136n9 (And.intro @fld136n10 (And.intro @bok136 (And.intro @zro136 (And.intro @shp137 (And.intro @fld137n0 (And.intro @fld137n1 (And.intro @fld137n2 (And.intro @fld137n3 (And.intro @fld137n4 (And.intro @fld137n5 (And.intro @fld137n6 (And.intro @fld137n7 (And.intro @fld137n8 (And.intro @fld137n9 (And.intro @fld137n10 (@bok137)))))))))))))))))))))))))))))))))))))))))))))))))))))))))))))))))))))))))))))))))))))))))))))))))))
theorem tyS3 : type_of% (And.intro @zro137 (And.intro @shp138 (And.intro @zro138 (And.intro @cal2 (And.intro @cal3 (And.intro @cal4 (And.intro @cal5 (And.intro @cal6 (And.intro @cal7 (And.intro @cal8 (And.intro @cal9 (And.intro @cal10 (And.intro @cal11 (And.intro @cal12 (And.intro @cal13 (And.intro @cal14 (And.intro @cal15 (And.intro @cal16 (And.intro @cal17 (And.intro @cal18 (And.intro @cal19 (And.intro @cal20 (And.intro @cal21 (And.intro @cal22 (And.intro @cal23 (And.intro @cal24 (And.intro @cal25 (And.intro @cal26 (And.intro @cal27 (And.intro @cal28 (And.intro @cal29 (And.intro @cal30 (And.intro @cal31 (And.intro @cal32 (And.intro @cal33 (And.intro @cal34 (And.intro @cal35 (And.intro @cal36 (And.intro @cal37 (And.intro @cal38 (And.intro @cal39 (And.intro @cal40 (And.intro @cal41 (And.intro @cal42 (And.intro @cal43 (And.intro @cal44 (And.intro @cal45 (And.intro @cal46 (And.intro @cal47 (And.intro @cal48 (And.intro @cal49 (And.intro @cal50 (And.intro @cal51 (And.intro @cal52 (And.intro @cal53 (And.intro @cal54 (And.intro @cal55 (And.intro @cal56 (And.intro @cal58 (And.intro @cal59 (And.intro @cal60 (And.intro @cal61 (And.intro @cal62 (And.intro @cal63 (And.intro @cal65 (And.intro @cal66 (And.intro @cal67 (And.intro @cal68 (And.intro @cal69 (And.intro @cal70 (And.intro @cal71 (And.intro @cal72 (And.intro @cal73 (And.intro @cal74 (And.intro @cal75 (And.intro @cal76 (And.intro @cal77 (And.intro @cal78 (And.intro @cal79 (And.intro @cal80 (And.intro @cal81 (And.intro @cal82 (And.intro @cal83 (And.intro @cal84 (And.intro @cal85 (And.intro @cal86 (And.intro @cal87 (And.intro @cal88 (And.intro @cal89 (And.intro @cal90 (And.intro @cal91 (And.intro @cal92 (And.intro @cal93 (And.intro @cal94 (And.intro @cal95 (And.intro @cal96 (And.intro @cal119 (And.intro @cal0 (And.intro @cal1 (@cal57)))))))))))))))))))))))))))))))))))))))))))))))))))))))))))))))))))))))))))))))))))))))))))))))))))) := And.intro @zro137 (And.intro @shp138 (And.intro @zro138 (And.intro @cal2 (And.intro @cal3 (And.intro @cal4 (And.intro @cal5 (And.intro @cal6 (And.intro @cal7 (And.intro @cal8 (And.intro @cal9 (And.intro @cal10 (And.intro @cal11 (And.intro @cal12 (And.intro @cal13 (And.intro @cal14 (And.intro @cal15 (And.intro @cal16 (And.intro @cal17 (And.intro @cal18 (And.intro @cal19 (And.intro @cal20 (And.intro @cal21 (And.intro @cal22 (And.intro @cal23 (And.intro @cal24 (And.intro @cal25 (And.intro @cal26 (And.intro @cal27 (And.intro @cal28 (And.intro @cal29 (And.intro @cal30 (And.intro @cal31 (And.intro @cal32 (And.intro @cal33 (And.intro @cal34 (And.intro @cal35 (And.intro @cal36 (And.intro @cal37 (And.intro @cal38 (And.intro @cal39 (And.intro @cal40 (And.intro @cal41 (And.intro @cal42 (And.intro @cal43 (And.intro @cal44 (And.intro @cal45 (And.intro @cal46 (And.intro @cal47 (And.intro @cal48 (And.intro @cal49 (And.intro @cal50 (And.intro @cal51 (And.intro @cal52 (And.intro @cal53 (And.intro @cal54 (And.intro @cal55 (And.intro @cal56 (And.intro @cal58 (And.intro @cal59 (And.intro @cal60 (And.intro @cal61 (And.intro @cal62 (And.intro @cal63 (And.intro @cal65 (And.intro @cal66 (And.intro @cal67 (And.intro @cal68 (And.intro @cal69 (And.intro @cal70 (And.intro @cal71 (And.intro @cal72 (And.intro @cal73 (And.intro @cal74 (And.intro @cal75 (And.intro @cal76 (And.intro @cal77 (And.intro @cal78 (And.intro @cal79 (And.intro @cal80 (And.intro @cal81 (And.intro @cal82 (And.intro @cal83 (And.intro @cal84 (And.intro @cal85 (And.intro @cal86 (And.intro @cal87 (And.intro @cal88 (And.intro @cal89 (And.intro @cal90 (And.intro @cal91 (And.intro @cal92 (And.intro @cal93 (And.intro @cal94 (And.intro @cal95 (And.intro @cal96 (And.intro @cal119 (And.intro @cal0 (And.intro @cal1 (@cal57)))))))))))))))))))))))))))))))))))))))))))))))))))))))))))))))))))))))))))))))))))))))))))))))))))
theorem tyS4 : type_of% (And.intro @cal64 (And.intro @cal97 (And.intro @cal98 (And.intro @cal99 (And.intro @cal100 (And.intro @cal101 (And.intro @cal102 (And.intro @cal103 (And.intro @cal104 (And.intro @cal105 (And.intro @cal106 (And.intro @cal107 (And.intro @cal108 (And.intro @cal109 (And.intro @cal110 (And.intro @cal111 (And.intro @cal112 (And.intro @cal113 (And.intro @cal114 (And.intro @cal115 (And.intro @cal116 (And.intro @cal117 (And.intro @cal118 (And.intro @Tryd.underlying2 (And.intro @Tryd.underlying3 (And.intro @Tryd.underlying4 (And.intro @Tryd.underlying5 (And.intro @Tryd.underlying6 (And.intro @Tryd.underlying7 (And.intro @Tryd.underlying8 (And.intro @Tryd.underlying9 (And.intro @Tryd.underlying10 (And.intro @Tryd.underlying11 (And.intro @Tryd.underlying12 (And.intro @Tryd.underlying13 (And.intro @Tryd.underlying14 (And.intro @Tryd.underlying15 (And.intro @Tryd.underlying16 (And.intro @Tryd.underlying17 (And.intro @Tryd.underlying18 (And.intro @Tryd.underlying19 (And.intro @Tryd.underlying21 (And.intro @Tryd.underlying23 (And.intro @Tryd.underlying24 (And.intro @Tryd.underlying25 (And.intro @Tryd.underlying32 (And.intro @Tryd.underlying33 (And.intro @Tryd.underlying34 (And.intro @Tryd.underlying35 (And.intro @Tryd.underlying36 (And.intro @Tryd.underlying38 (And.intro @Tryd.underlying39 (And.intro @Tryd.underlying42 (And.intro @Tryd.underlying45 (And.intro @Tryd.underlying46 (And.intro @Tryd.underlying47 (And.intro @Tryd.underlying48 (And.intro @Tryd.underlying49 (And.intro @Tryd.underlying58 (And.intro @Tryd.underlying88 (And.intro @Tryd.underlying90 (And.intro @Tryd.underlying91 (And.intro @Tryd.underlying92 (And.intro @Tryd.underlying98 (And.intro @Tryd.underlying101 (And.intro @Tryd.underlying102 (And.intro @Tryd.underlying103 (And.intro @Tryd.underlying104 (And.intro @Tryd.underlying106 (And.intro @Tryd.underlying110 (And.intro @Tryd.underlying111 (And.intro @Tryd.underlying115 (And.intro @Tryd.underlying116 (And.intro @Tryd.underlying120 (And.intro @Tryd.underlying121 (And.intro @Tryd.underlying125 (And.intro @Tryd.underlying126 (And.intro @Tryd.underlying127 (And.intro @Tryd.underlying128 (And.intro @Tryd.underlying129 (And.intro @Tryd.underlying130 (And.intro @Tryd.underlying131 (And.intro @Tryd.underlying133 (And.intro @Tryd.underlying134 (And.intro @Tryd.underlying135 (And.intro @Tryd.underlying136 (And.intro @Tryd.underlying137 (And.intro @Tryd.underlying138 (And.intro @Tryd.results2 (And.intro @Tryd.results3 (And.intro @Tryd.results4 (And.intro @Tryd.results5 (And.intro @Tryd.results6 (And.intro @Tryd.results7 (And.intro @Tryd.results8 (And.intro @Tryd.results9 (And.intro @Tryd.results10 (And.intro @Tryd.results11 (And.intro @Tryd.results12 (@Tryd.results13)))))))))))))))))))))))))))))))))))))))))))))))))))))))))))))))))))))))))))))))))))))))))))))))))))) := And.intro @cal64 (And.intro @cal97 (And.intro @cal98 (And.intro @cal99 (And.intro @cal100 (And.intro @cal101 (And.intro @cal102 (And.intro @cal103 (And.intro @cal104 (And.intro @cal105 (And.intro @cal106 (And.intro @cal107 (And.intro @cal108 (And.intro @cal109 (And.intro @cal110 (And.intro @cal111 (And.intro @cal112 (And.intro @cal113 (And.intro @cal114 (And.intro @cal115 (And.intro @cal116 (And.intro @cal117 (And.intro @cal118 (And.intro @Tryd.underlying2 (And.intro @Tryd.underlying3 (And.intro @Tryd.underlying4 (And.intro @Tryd.underlying5 (And.intro @Tryd.underlying6 (And.intro @Tryd.underlying7 (And.intro @Tryd.underlying8 (And.intro @Tryd.underlying9 (And.intro @Tryd.underlying10 (And.intro @Tryd.underlying11 (And.intro @Tryd.underlying12 (And.intro @Tryd.underlying13 (And.intro @Tryd.underlying14 (And.intro @Tryd.underlying15 (And.intro @Tryd.underlying16 (And.intro @Tryd.underlying17 (And.intro @Tryd.underlying18 (And.intro @Tryd.underlying19 (And.intro @Tryd.underlying21 (And.intro @Tryd.underlying23 (And.intro @Tryd.underlying24 (And.intro @Tryd.underlying25 (And.intro @Tryd.underlying32 (And.intro @Tryd.underlying33 (And.intro @Tryd.underlying34 (And.intro @Tryd.underlying35 (And.intro @Tryd.underlying36 (And.intro @Tryd.underlying38 (And.intro @Tryd.underlying39 (And.intro @Tryd.underlying42 (And.intro @Tryd.underlying45 (And.intro @Tryd.underlying46 (And.intro @Tryd.underlying47 (And.intro @Tryd.underlying48 (And.intro @Tryd.underlying49 (And.intro @Tryd.underlying58 (And.intro @Tryd.underlying88 (And.intro @Tryd.underlying90 (And.intro @Tryd.underlying91 (And.intro @Tryd.underlying92 (And.intro @Tryd.underlying98 (And.intro @Tryd.underlying101 (And.intro @Tryd.underlying102 (And.intro @Tryd.underlying103 (And.intro @Tryd.underlying104 (And.intro @Tryd.underlying106 (And.intro @Tryd.underlying110 (And.intro @Tryd.underlying111 (And.intro @Tryd.underlying115 (And.intro @Tryd.underlying116 (And.intro @Tryd.underlying120 (And.intro @Tryd.underlying121 (And.intro @Tryd.underlying125 (And.intro @Tryd.underlying126 (And.intro @Tryd.underlying127 (And.intro @Tryd.underlying128 (And.intro @Tryd.underlying129 (And.intro @Tryd.underlying130 (And.intro @Tryd.underlying131 (And.intro @Tryd.underlying133 (And.intro @Tryd.underlying134 (And.intro @Tryd.underlying135 (And.intro @Tryd.underlying136 (And.intro @Tryd.underlying137 (And.intro @Tryd.underlying138 (And.intro @Tryd.results2 (And.intro @Tryd.results3 (And.intro @Tryd.results4 (And.intro @Tryd.results5 (And.intro @Tryd.results6 (And.intro @Tryd.results7 (And.intro @Tryd.results8 (And.intro @Tryd.results9 (And.intro @Tryd.results10 (And.intro @Tryd.results11 (And.intro @Tryd.results12 (@Tryd.results13)))))))))))))))))))))))))))))))))))))))))))))))))))))))))))))))))))))))))))))))))))))))))))))))))))
theorem tyS5 : type_of% (And.intro @Tryd.results14 (And.intro @Tryd.results15 (And.intro @Tryd.results16 (And.intro @Tryd.results17 (And.intro @Tryd.results18 (And.intro @Tryd.results19 (And.intro @Tryd.results20 (And.intro @Tryd.results21 (And.intro @Tryd.results22 (And.intro @Tryd.results23 (And.intro @Tryd.results24 (And.intro @Tryd.results25 (And.intro @Tryd.results26 (And.intro @Tryd.results27 (And.intro @Tryd.results28 (And.intro @Tryd.results29 (And.intro @Tryd.results30 (And.intro @Tryd.results31 (And.intro @Tryd.results32 (And.intro @Tryd.results33 (And.intro @Tryd.results34 (And.intro @Tryd.results35 (And.intro @Tryd.results36 (And.intro @Tryd.results37 (And.intro @Tryd.results38 (And.intro @Tryd.results39 (And.intro @Tryd.results40 (And.intro @Tryd.results41 (And.intro @Tryd.results42 (And.intro @Tryd.results43 (And.intro @Tryd.results44 (And.intro @Tryd.results45 (And.intro @Tryd.results46 (And.intro @Tryd.results47 (And.intro @Tryd.results48 (And.intro @Tryd.results49 (And.intro @Tryd.results50 (And.intro @Tryd.results51 (And.intro @Tryd.results52 (And.intro @Tryd.results53 (And.intro @Tryd.results54 (And.intro @Tryd.results55 (And.intro @Tryd.results56 (And.intro @Tryd.results58 (And.intro @Tryd.results59 (And.intro @Tryd.results60 (And.intro @Tryd.results61 (And.intro @Tryd.results62 (And.intro @Tryd.results63 (And.intro @Tryd.results65 (And.intro @Tryd.results66 (And.intro @Tryd.results67 (And.intro @Tryd.results68 (And.intro @Tryd.results69 (And.intro @Tryd.results70 (And.intro @Tryd.results71 (And.intro @Tryd.results72 (And.intro @Tryd.results73 (And.intro @Tryd.results74 (And.intro @Tryd.results75 (And.intro @Tryd.results76 (And.intro @Tryd.results77 (And.intro @Tryd.results78 (And.intro @Tryd.results79 (And.intro @Tryd.results80 (And.intro @Tryd.results81 (And.intro @Tryd.results82 (And.intro @Tryd.results83 (And.intro @Tryd.results84 (And.intro @Tryd.results85 (And.intro @Tryd.results86 (And.intro @Tryd.results87 (And.intro @Tryd.results88 (And.intro @Tryd.results89 (And.intro @Tryd.results90 (And.intro @Tryd.results91 (And.intro @Tryd.results92 (And.intro @Tryd.results93 (And.intro @Tryd.results94 (And.intro @Tryd.results95 (And.intro @Tryd.results96 (@Tryd.results119)))))))))))))))))))))))))))))))))))))))))))))))))))))))))))))))))))))))))))))))))) := And.intro @Tryd.results14 (And.intro @Tryd.results15 (And.intro @Tryd.results16 (And.intro @Tryd.results17 (And.intro @Tryd.results18 (And.intro @Tryd.results19 (And.intro @Tryd.results20 (And.intro @Tryd.results21 (And.intro @Tryd.results22 (And.intro @Tryd.results23 (And.intro @Tryd.results24 (And.intro @Tryd.results25 (And.intro @Tryd.results26 (And.intro @Tryd.results27 (And.intro @Tryd.results28 (And.intro @Tryd.results29 (And.intro @Tryd.results30 (And.intro @Tryd.results31 (And.intro @Tryd.results32 (And.intro @Tryd.results33 (And.intro @Tryd.results34 (And.intro @Tryd.results35 (And.intro @Tryd.results36 (And.intro @Tryd.results37 (And.intro @Tryd.results38 (And.intro @Tryd.results39 (And.intro @Tryd.results40 (And.intro @Tryd.results41 (And.intro @Tryd.results42 (And.intro @Tryd.results43 (And.intro @Tryd.results44 (And.intro @Tryd.results45 (And.intro @Tryd.results46 (And.intro @Tryd.results47 (And.intro @Tryd.results48 (And.intro @Tryd.results49 (And.intro @Tryd.results50 (And.intro @Tryd.results51 (And.intro @Tryd.results52 (And.intro @Tryd.results53 (And.intro @Tryd.results54 (And.intro @Tryd.results55 (And.intro @Tryd.results56 (And.intro @Tryd.results58 (And.intro @Tryd.results59 (And.intro @Tryd.results60 (And.intro @Tryd.results61 (And.intro @Tryd.results62 (And.intro @Tryd.results63 (And.intro @Tryd.results65 (And.intro @Tryd.results66 (And.intro @Tryd.results67 (And.intro @Tryd.results68 (And.intro @Tryd.results69 (And.intro @Tryd.results70 (And.intro @Tryd.results71 (And.intro @Tryd.results72 (And.intro @Tryd.results73 (And.intro @Tryd.results74 (And.intro @Tryd.results75 (And.intro @Tryd.results76 (And.intro @Tryd.results77 (And.intro @Tryd.results78 (And.intro @Tryd.results79 (And.intro @Tryd.results80 (And.intro @Tryd.results81 (And.intro @Tryd.results82 (And.intro @Tryd.results83 (And.intro @Tryd.results84 (And.intro @Tryd.results85 (And.intro @Tryd.results86 (And.intro @Tryd.results87 (And.intro @Tryd.results88 (And.intro @Tryd.results89 (And.intro @Tryd.results90 (And.intro @Tryd.results91 (And.intro @Tryd.results92 (And.intro @Tryd.results93 (And.intro @Tryd.results94 (And.intro @Tryd.results95 (And.intro @Tryd.results96 (@Tryd.results119)))))))))))))))))))))))))))))))))))))))))))))))))))))))))))))))))))))))))))))))))
theorem tyS : type_of% (And.intro @tyS0 (And.intro @tyS1 (And.intro @tyS2 (And.intro @tyS3 (And.intro @tyS4 (@tyS5)))))) := And.intro @tyS0 (And.intro @tyS1 (And.intro @tyS2 (And.intro @tyS3 (And.intro @tyS4 (@tyS5)))))
end Go.Proofs.YtfphceknmgadgaaDoor
