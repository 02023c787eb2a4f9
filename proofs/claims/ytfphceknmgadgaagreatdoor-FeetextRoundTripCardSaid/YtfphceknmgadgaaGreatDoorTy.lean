/-
Closed facts on the types and functions of this translation.
Conditions: none.
-/
import Derived.Test.YtfphceknmgadgaaGreatDoorProg
import Derived.Test.YtfphceknmgadgaaGreatDoorVmEq
import Derived.KernelRfl
set_option linter.unusedSimpArgs false
set_option linter.unusedVariables false
namespace Go.Proofs.YtfphceknmgadgaaGreatDoor
open Go.Vm
set_option maxRecDepth 100000
theorem shp2:DP Tryz.prog 2=some (false,1):=by kernel_rfl
theorem zro2:DU Tryz.prog 2=some (.int .i64 0):=by kernel_rfl
theorem shp3:DP Tryz.prog 3=some (false,1):=by kernel_rfl
theorem zro3:DU Tryz.prog 3=some (.int .i64 0):=by kernel_rfl
theorem shp4:DP Tryz.prog 4=some (false,1):=by kernel_rfl
theorem zro4:DU Tryz.prog 4=some (.bool false):=by kernel_rfl
theorem shp5:DP Tryz.prog 5=some (false,1):=by kernel_rfl
theorem oP:DU Tryz.prog 5=some (.int .u8 0):=by kernel_rfl
theorem shp6:DP Tryz.prog 6=some (false,1):=by kernel_rfl
theorem zro6:DU Tryz.prog 6=some (.int .u8 0):=by kernel_rfl
theorem shp7:DP Tryz.prog 7=some (true,4):=by kernel_rfl
theorem fj:Cr Tryz.prog 7 0=some (0,false,1):=by kernel_rfl
theorem ka:Cr Tryz.prog 7 1=some (1,false,1):=by kernel_rfl
theorem fK:Cr Tryz.prog 7 2=some (2,false,1):=by kernel_rfl
theorem lZ:Cr Tryz.prog 7 3=some (3,false,1):=by kernel_rfl
theorem bok7:Cj Tryz.prog 7=true:=by kernel_rfl
theorem zro7:DU Tryz.prog 7=some (.agg #[.int .i64 0,.int .i64 0,.bool false,.int .u8 0]):=by kernel_rfl
theorem shp8:DP Tryz.prog 8=some (true,4):=by kernel_rfl
theorem dc:Cr Tryz.prog 8 0=some (0,false,1):=by kernel_rfl
theorem fi:Cr Tryz.prog 8 1=some (1,false,1):=by kernel_rfl
theorem dz:Cr Tryz.prog 8 2=some (2,false,1):=by kernel_rfl
theorem dp:Cr Tryz.prog 8 3=some (3,false,1):=by kernel_rfl
theorem bok8:Cj Tryz.prog 8=true:=by kernel_rfl
theorem zro8:DU Tryz.prog 8=some (.agg #[.int .i64 0,.int .i64 0,.bool false,.int .u8 0]):=by kernel_rfl
theorem shp9:DP Tryz.prog 9=some (false,1):=by kernel_rfl
theorem zro9:DU Tryz.prog 9=some (.string ⟨#[]⟩):=by kernel_rfl
theorem rO:DP Tryz.prog 10=some (false,1):=by kernel_rfl
theorem rt:DU Tryz.prog 10=some (.string ⟨#[]⟩):=by kernel_rfl
theorem ua:DP Tryz.prog 11=some (false,1):=by kernel_rfl
theorem rY:DU Tryz.prog 11=some (.string ⟨#[]⟩):=by kernel_rfl
theorem tG:DP Tryz.prog 12=some (false,1):=by kernel_rfl
theorem tF:DU Tryz.prog 12=some (.int .u64 0):=by kernel_rfl
theorem sT:DP Tryz.prog 13=some (true,2):=by kernel_rfl
theorem aT:Cr Tryz.prog 13 0=some (0,false,1):=by kernel_rfl
theorem bL:Cr Tryz.prog 13 1=some (1,false,1):=by kernel_rfl
theorem ov:Cj Tryz.prog 13=true:=by kernel_rfl
theorem td:DU Tryz.prog 13=some (.agg #[.string ⟨#[]⟩,.int .u64 0]):=by kernel_rfl
theorem ra:DP Tryz.prog 14=some (true,2):=by kernel_rfl
theorem Zk:Cr Tryz.prog 14 0=some (0,false,1):=by kernel_rfl
theorem Yu:Cr Tryz.prog 14 1=some (1,false,1):=by kernel_rfl
theorem qb:Cj Tryz.prog 14=true:=by kernel_rfl
theorem th:DU Tryz.prog 14=some (.agg #[.string ⟨#[]⟩,.int .u64 0]):=by kernel_rfl
theorem si:DP Tryz.prog 15=some (false,1):=by kernel_rfl
theorem pV:DU Tryz.prog 15=some (.pointer none):=by kernel_rfl
theorem qZ:DP Tryz.prog 16=some (false,1):=by kernel_rfl
theorem rn:DU Tryz.prog 16=some (.pointer none):=by kernel_rfl
theorem sZ:DP Tryz.prog 17=some (false,1):=by kernel_rfl
theorem uD:DU Tryz.prog 17=some (.pointer none):=by kernel_rfl
theorem qT:DP Tryz.prog 18=some (true,1):=by kernel_rfl
theorem Yy:Cr Tryz.prog 18 0=some (0,false,1):=by kernel_rfl
theorem rK:Cj Tryz.prog 18=true:=by kernel_rfl
theorem rm:DU Tryz.prog 18=some (.agg #[.pointer none]):=by kernel_rfl
theorem ta:DP Tryz.prog 19=some (true,1):=by kernel_rfl
theorem Z5:Cr Tryz.prog 19 0=some (0,false,1):=by kernel_rfl
theorem pn:Cj Tryz.prog 19=true:=by kernel_rfl
theorem ro:DU Tryz.prog 19=some (.agg #[.pointer none]):=by kernel_rfl
theorem rB:DP Tryz.prog 20=some (false,1):=by kernel_rfl
theorem ox:DU Tryz.prog 20=some (.nilIface):=by kernel_rfl
theorem p8:DP Tryz.prog 21=some (false,1):=by kernel_rfl
theorem sS:DU Tryz.prog 21=some (.int .i32 0):=by kernel_rfl
theorem uJ:DP Tryz.prog 23=some (false,1):=by kernel_rfl
theorem pL:DU Tryz.prog 23=some (.slice none 0 0):=by kernel_rfl
theorem da:PR Tryz.prog 23=some (38,10,120):=by kernel_rfl
theorem sf:DP Tryz.prog 24=some (false,1):=by kernel_rfl
theorem rZ:DU Tryz.prog 24=some (.int .i64 0):=by kernel_rfl
theorem uQ:DP Tryz.prog 34=some (false,1):=by kernel_rfl
theorem qQ:DU Tryz.prog 34=some (.slice none 0 0):=by kernel_rfl
theorem YQ:PR Tryz.prog 34=some (36,5,72):=by kernel_rfl
theorem rC:DP Tryz.prog 35=some (true,5):=by kernel_rfl
theorem bG:Cr Tryz.prog 35 0=some (0,false,1):=by kernel_rfl
theorem YZ:Cr Tryz.prog 35 1=some (1,false,1):=by kernel_rfl
theorem Xb:Cr Tryz.prog 35 2=some (2,false,1):=by kernel_rfl
theorem Z4:Cr Tryz.prog 35 3=some (3,false,1):=by kernel_rfl
theorem ZN:Cr Tryz.prog 35 4=some (4,false,1):=by kernel_rfl
theorem qr:Cj Tryz.prog 35=true:=by kernel_rfl
theorem qB:Tryz.prog.stoodInHeld 35=false:=by kernel_rfl
theorem qP:Tryz.prog.eqGuardType Tryz.prog.depth 35=false:=by kernel_rfl
theorem sK:DU Tryz.prog 35=some (.agg #[.int .i64 0,.string ⟨#[]⟩,.string ⟨#[]⟩,.int .i64 0,.slice none 0 0]):=by kernel_rfl
theorem pR:DP Tryz.prog 36=some (true,5):=by kernel_rfl
theorem aa:Cr Tryz.prog 36 0=some (0,false,1):=by kernel_rfl
theorem YG:Cr Tryz.prog 36 1=some (1,false,1):=by kernel_rfl
theorem Z2:Cr Tryz.prog 36 2=some (2,false,1):=by kernel_rfl
theorem ZW:Cr Tryz.prog 36 3=some (3,false,1):=by kernel_rfl
theorem Xh:Cr Tryz.prog 36 4=some (4,false,1):=by kernel_rfl
theorem uU:Cj Tryz.prog 36=true:=by kernel_rfl
theorem uO:Tryz.prog.stoodInHeld 36=false:=by kernel_rfl
theorem uF:Tryz.prog.eqGuardType Tryz.prog.depth 36=false:=by kernel_rfl
theorem YU:DU Tryz.prog 36=some (.agg #[.int .i64 0,.string ⟨#[]⟩,.string ⟨#[]⟩,.int .i64 0,.slice none 0 0]):=by kernel_rfl
theorem tB:DP Tryz.prog 37=some (true,10):=by kernel_rfl
theorem ak:Cr Tryz.prog 37 0=some (0,false,1):=by kernel_rfl
theorem YJ:Cr Tryz.prog 37 1=some (1,true,5):=by kernel_rfl
theorem aR:Cr Tryz.prog 37 2=some (6,false,1):=by kernel_rfl
theorem YM:Cr Tryz.prog 37 3=some (7,false,1):=by kernel_rfl
theorem Yb:Cr Tryz.prog 37 4=some (8,false,1):=by kernel_rfl
theorem Yh:Cr Tryz.prog 37 5=some (9,false,1):=by kernel_rfl
theorem qS:Cj Tryz.prog 37=true:=by kernel_rfl
theorem sv:Tryz.prog.stoodInHeld 37=false:=by kernel_rfl
theorem sR:Tryz.prog.eqGuardType Tryz.prog.depth 37=false:=by kernel_rfl
theorem sy:DU Tryz.prog 37=some (.agg #[.string ⟨#[]⟩,.int .i64 0,.string ⟨#[]⟩,.string ⟨#[]⟩,.int .i64 0,.slice none 0 0,.int .i64 0,.int .i64 0,.int .i64 0,.int .i64 0]):=by kernel_rfl
theorem tT:DP Tryz.prog 38=some (true,10):=by kernel_rfl
theorem ah:Cr Tryz.prog 38 0=some (0,false,1):=by kernel_rfl
theorem Zy:Cr Tryz.prog 38 1=some (1,true,5):=by kernel_rfl
theorem Yp:Cr Tryz.prog 38 2=some (6,false,1):=by kernel_rfl
theorem YX:Cr Tryz.prog 38 3=some (7,false,1):=by kernel_rfl
theorem Y8:Cr Tryz.prog 38 4=some (8,false,1):=by kernel_rfl
theorem ZZ:Cr Tryz.prog 38 5=some (9,false,1):=by kernel_rfl
theorem s9:Cj Tryz.prog 38=true:=by kernel_rfl
theorem pU:Tryz.prog.stoodInHeld 38=false:=by kernel_rfl
theorem sm:Tryz.prog.eqGuardType Tryz.prog.depth 38=false:=by kernel_rfl
theorem kJ:DU Tryz.prog 38=some (.agg #[.string ⟨#[]⟩,.int .i64 0,.string ⟨#[]⟩,.string ⟨#[]⟩,.int .i64 0,.slice none 0 0,.int .i64 0,.int .i64 0,.int .i64 0,.int .i64 0]):=by kernel_rfl
theorem qk:DP Tryz.prog 40=some (true,2):=by kernel_rfl
theorem Yi:Cr Tryz.prog 40 0=some (0,false,1):=by kernel_rfl
theorem bX:Cr Tryz.prog 40 1=some (1,false,1):=by kernel_rfl
theorem qx:Cj Tryz.prog 40=true:=by kernel_rfl
theorem rU:Tryz.prog.stoodInHeld 40=false:=by kernel_rfl
theorem sw:Tryz.prog.eqGuardType Tryz.prog.depth 40=false:=by kernel_rfl
theorem qC:DU Tryz.prog 40=some (.agg #[.int .i64 0,.int .i64 0]):=by kernel_rfl
theorem rx:DP Tryz.prog 41=some (true,2):=by kernel_rfl
theorem ZA:Cr Tryz.prog 41 0=some (0,false,1):=by kernel_rfl
theorem aj:Cr Tryz.prog 41 1=some (1,false,1):=by kernel_rfl
theorem ru:Cj Tryz.prog 41=true:=by kernel_rfl
theorem pg:Tryz.prog.stoodInHeld 41=false:=by kernel_rfl
theorem qv:Tryz.prog.eqGuardType Tryz.prog.depth 41=false:=by kernel_rfl
theorem pP:DU Tryz.prog 41=some (.agg #[.int .i64 0,.int .i64 0]):=by kernel_rfl
theorem tp:DP Tryz.prog 44=some (false,1):=by kernel_rfl
theorem qY:DU Tryz.prog 44=some (.slice none 0 0):=by kernel_rfl
theorem Xf:PR Tryz.prog 44=some (51,4,40):=by kernel_rfl
theorem tU:DP Tryz.prog 47=some (false,1):=by kernel_rfl
theorem uN:DU Tryz.prog 47=some (.pointer none):=by kernel_rfl
theorem om:DP Tryz.prog 48=some (true,5):=by kernel_rfl
theorem Ym:Cr Tryz.prog 48 0=some (0,false,1):=by kernel_rfl
theorem Xw:Cr Tryz.prog 48 1=some (1,false,1):=by kernel_rfl
theorem aM:Cr Tryz.prog 48 2=some (2,false,1):=by kernel_rfl
theorem ZR:Cr Tryz.prog 48 3=some (3,false,1):=by kernel_rfl
theorem Zs:Cr Tryz.prog 48 4=some (4,false,1):=by kernel_rfl
theorem qX:Cj Tryz.prog 48=true:=by kernel_rfl
theorem qN:Tryz.prog.stoodInHeld 48=false:=by kernel_rfl
theorem tN:Tryz.prog.eqGuardType Tryz.prog.depth 48=false:=by kernel_rfl
theorem qK:DU Tryz.prog 48=some (.agg #[.string ⟨#[]⟩,.string ⟨#[]⟩,.slice none 0 0,.int .i64 0,.slice none 0 0]):=by kernel_rfl
theorem uW:DP Tryz.prog 49=some (true,5):=by kernel_rfl
theorem aX:Cr Tryz.prog 49 0=some (0,false,1):=by kernel_rfl
theorem Zj:Cr Tryz.prog 49 1=some (1,false,1):=by kernel_rfl
theorem bT:Cr Tryz.prog 49 2=some (2,false,1):=by kernel_rfl
theorem bR:Cr Tryz.prog 49 3=some (3,false,1):=by kernel_rfl
theorem X3:Cr Tryz.prog 49 4=some (4,false,1):=by kernel_rfl
theorem tf:Cj Tryz.prog 49=true:=by kernel_rfl
theorem ql:Tryz.prog.stoodInHeld 49=false:=by kernel_rfl
theorem r9:Tryz.prog.eqGuardType Tryz.prog.depth 49=false:=by kernel_rfl
theorem tb:DU Tryz.prog 49=some (.agg #[.string ⟨#[]⟩,.string ⟨#[]⟩,.slice none 0 0,.int .i64 0,.slice none 0 0]):=by kernel_rfl
theorem oh:DP Tryz.prog 50=some (true,4):=by kernel_rfl
theorem Xz:Cr Tryz.prog 50 0=some (0,false,1):=by kernel_rfl
theorem Xg:Cr Tryz.prog 50 1=some (1,false,1):=by kernel_rfl
theorem Zb:Cr Tryz.prog 50 2=some (2,false,1):=by kernel_rfl
theorem YO:Cr Tryz.prog 50 3=some (3,false,1):=by kernel_rfl
theorem rM:Cj Tryz.prog 50=true:=by kernel_rfl
theorem sd:Tryz.prog.stoodInHeld 50=false:=by kernel_rfl
theorem re:Tryz.prog.eqGuardType Tryz.prog.depth 50=false:=by kernel_rfl
theorem qg:DU Tryz.prog 50=some (.agg #[.int .i64 0,.string ⟨#[]⟩,.int .i64 0,.int .i64 0]):=by kernel_rfl
theorem pO:DP Tryz.prog 51=some (true,4):=by kernel_rfl
theorem XZ:Cr Tryz.prog 51 0=some (0,false,1):=by kernel_rfl
theorem aQ:Cr Tryz.prog 51 1=some (1,false,1):=by kernel_rfl
theorem YE:Cr Tryz.prog 51 2=some (2,false,1):=by kernel_rfl
theorem Y4:Cr Tryz.prog 51 3=some (3,false,1):=by kernel_rfl
theorem pM:Cj Tryz.prog 51=true:=by kernel_rfl
theorem uP:Tryz.prog.stoodInHeld 51=false:=by kernel_rfl
theorem qa:Tryz.prog.eqGuardType Tryz.prog.depth 51=false:=by kernel_rfl
theorem Zi:DU Tryz.prog 51=some (.agg #[.int .i64 0,.string ⟨#[]⟩,.int .i64 0,.int .i64 0]):=by kernel_rfl
theorem uZ:DP Tryz.prog 53=some (false,1):=by kernel_rfl
theorem pY:DU Tryz.prog 53=some (.pointer none):=by kernel_rfl
theorem tC:DP Tryz.prog 54=some (true,5):=by kernel_rfl
theorem Zd:Cr Tryz.prog 54 0=some (0,false,1):=by kernel_rfl
theorem ai:Cr Tryz.prog 54 1=some (1,false,1):=by kernel_rfl
theorem Z9:Cr Tryz.prog 54 2=some (2,false,1):=by kernel_rfl
theorem Yn:Cr Tryz.prog 54 3=some (3,false,1):=by kernel_rfl
theorem Yx:Cr Tryz.prog 54 4=some (4,false,1):=by kernel_rfl
theorem pF:Cj Tryz.prog 54=true:=by kernel_rfl
theorem r7:Tryz.prog.stoodInHeld 54=false:=by kernel_rfl
theorem tS:Tryz.prog.eqGuardType Tryz.prog.depth 54=false:=by kernel_rfl
theorem qA:DU Tryz.prog 54=some (.agg #[.string ⟨#[]⟩,.string ⟨#[]⟩,.slice none 0 0,.int .i64 0,.int .i64 0]):=by kernel_rfl
theorem rz:DP Tryz.prog 55=some (true,5):=by kernel_rfl
theorem ZP:Cr Tryz.prog 55 0=some (0,false,1):=by kernel_rfl
theorem al:Cr Tryz.prog 55 1=some (1,false,1):=by kernel_rfl
theorem ZQ:Cr Tryz.prog 55 2=some (2,false,1):=by kernel_rfl
theorem Zn:Cr Tryz.prog 55 3=some (3,false,1):=by kernel_rfl
theorem bO:Cr Tryz.prog 55 4=some (4,false,1):=by kernel_rfl
theorem tR:Cj Tryz.prog 55=true:=by kernel_rfl
theorem pQ:Tryz.prog.stoodInHeld 55=false:=by kernel_rfl
theorem pc:Tryz.prog.eqGuardType Tryz.prog.depth 55=false:=by kernel_rfl
theorem ti:DU Tryz.prog 55=some (.agg #[.string ⟨#[]⟩,.string ⟨#[]⟩,.slice none 0 0,.int .i64 0,.int .i64 0]):=by kernel_rfl
theorem qy:DP Tryz.prog 64=some (false,1):=by kernel_rfl
theorem sY:DU Tryz.prog 64=some (.pointer none):=by kernel_rfl
theorem qt:DP Tryz.prog 65=some (false,1):=by kernel_rfl
theorem p7:DU Tryz.prog 65=some (.slice none 0 0):=by kernel_rfl
theorem Z7:PR Tryz.prog 65=some (5,1,1):=by kernel_rfl
theorem tr:DP Tryz.prog 66=some (true,2):=by kernel_rfl
theorem Z6:Cr Tryz.prog 66 0=some (0,false,1):=by kernel_rfl
theorem bV:Cr Tryz.prog 66 1=some (1,false,1):=by kernel_rfl
theorem pq:Cj Tryz.prog 66=true:=by kernel_rfl
theorem qs:DU Tryz.prog 66=some (.agg #[.pointer none,.slice none 0 0]):=by kernel_rfl
theorem tO:DP Tryz.prog 67=some (true,2):=by kernel_rfl
theorem bJ:Cr Tryz.prog 67 0=some (0,false,1):=by kernel_rfl
theorem YN:Cr Tryz.prog 67 1=some (1,false,1):=by kernel_rfl
theorem pA:Cj Tryz.prog 67=true:=by kernel_rfl
theorem tK:DU Tryz.prog 67=some (.agg #[.pointer none,.slice none 0 0]):=by kernel_rfl
theorem rT:DP Tryz.prog 68=some (false,1):=by kernel_rfl
theorem rr:DU Tryz.prog 68=some (.map none):=by kernel_rfl
theorem qO:DP Tryz.prog 70=some (false,1):=by kernel_rfl
theorem uB:DU Tryz.prog 70=some (.nilIface):=by kernel_rfl
theorem pK:DP Tryz.prog 71=some (false,1):=by kernel_rfl
theorem pT:DU Tryz.prog 71=some (.nilIface):=by kernel_rfl
theorem qV:DP Tryz.prog 94=some (true,2):=by kernel_rfl
theorem aF:Cr Tryz.prog 94 0=some (0,false,1):=by kernel_rfl
theorem bS:Cr Tryz.prog 94 1=some (1,false,1):=by kernel_rfl
theorem sL:Cj Tryz.prog 94=true:=by kernel_rfl
theorem pd:DU Tryz.prog 94=some (.agg #[.string ⟨#[]⟩,.int .i64 0]):=by kernel_rfl
theorem qF:DP Tryz.prog 95=some (false,1):=by kernel_rfl
theorem sF:DU Tryz.prog 95=some (.slice none 0 0):=by kernel_rfl
theorem uY:PR Tryz.prog 95=some (94,2,24):=by kernel_rfl
theorem sa:DP Tryz.prog 97=some (false,1):=by kernel_rfl
theorem qE:DU Tryz.prog 97=some (.pointer none):=by kernel_rfl
theorem tV:DP Tryz.prog 99=some (false,1):=by kernel_rfl
theorem rF:DU Tryz.prog 99=some (.slice none 0 0):=by kernel_rfl
theorem rj:PR Tryz.prog 99=some (9,1,16):=by kernel_rfl
theorem gJ:DP Tryz.prog 108=some (false,1):=by kernel_rfl
theorem kB:DU Tryz.prog 108=some (.pointer none):=by kernel_rfl
theorem mM:DP Tryz.prog 109=some (true,4):=by kernel_rfl
theorem UQ:Cr Tryz.prog 109 0=some (0,false,1):=by kernel_rfl
theorem Tx:Cr Tryz.prog 109 1=some (1,false,1):=by kernel_rfl
theorem T8:Cr Tryz.prog 109 2=some (2,false,1):=by kernel_rfl
theorem UW:Cr Tryz.prog 109 3=some (3,false,1):=by kernel_rfl
theorem mC:Cj Tryz.prog 109=true:=by kernel_rfl
theorem ly:Tryz.prog.stoodInHeld 109=false:=by kernel_rfl
theorem l6:Tryz.prog.eqGuardType Tryz.prog.depth 109=false:=by kernel_rfl
theorem ic:DU Tryz.prog 109=some (.agg #[.slice none 0 0,.int .i64 0,.int .i64 0,.int .i64 0]):=by kernel_rfl
theorem jP:DP Tryz.prog 110=some (true,4):=by kernel_rfl
theorem VD:Cr Tryz.prog 110 0=some (0,false,1):=by kernel_rfl
theorem US:Cr Tryz.prog 110 1=some (1,false,1):=by kernel_rfl
theorem UT:Cr Tryz.prog 110 2=some (2,false,1):=by kernel_rfl
theorem U0:Cr Tryz.prog 110 3=some (3,false,1):=by kernel_rfl
theorem jM:Cj Tryz.prog 110=true:=by kernel_rfl
theorem iO:Tryz.prog.stoodInHeld 110=false:=by kernel_rfl
theorem lQ:Tryz.prog.eqGuardType Tryz.prog.depth 110=false:=by kernel_rfl
theorem dS:DU Tryz.prog 110=some (.agg #[.slice none 0 0,.int .i64 0,.int .i64 0,.int .i64 0]):=by kernel_rfl
theorem iU:DP Tryz.prog 112=some (false,1):=by kernel_rfl
theorem iw:DU Tryz.prog 112=some (.pointer none):=by kernel_rfl
theorem lY:DP Tryz.prog 119=some (false,1):=by kernel_rfl
theorem j7:DU Tryz.prog 119=some (.pointer none):=by kernel_rfl
theorem gT:DP Tryz.prog 124=some (true,24):=by kernel_rfl
theorem jk:Cj Tryz.prog 124=false:=by kernel_rfl
theorem la:DU Tryz.prog 124=some (.agg #[.int .u8 0,.int .u8 0,.int .u8 0,.int .u8 0,.int .u8 0,.int .u8 0,.int .u8 0,.int .u8 0,.int .u8 0,.int .u8 0,.int .u8 0,.int .u8 0,.int .u8 0,.int .u8 0,.int .u8 0,.int .u8 0,.int .u8 0,.int .u8 0,.int .u8 0,.int .u8 0,.int .u8 0,.int .u8 0,.int .u8 0,.int .u8 0]):=by kernel_rfl
theorem fp:DP Tryz.prog 125=some (false,1):=by kernel_rfl
theorem jf:DU Tryz.prog 125=some (.int .u64 0):=by kernel_rfl
theorem ek:DP Tryz.prog 130=some (false,1):=by kernel_rfl
theorem mL:DU Tryz.prog 130=some (.int .u64 0):=by kernel_rfl
theorem iz:DP Tryz.prog 132=some (false,1):=by kernel_rfl
theorem hJ:DU Tryz.prog 132=some (.pointer none):=by kernel_rfl
theorem kH:DP Tryz.prog 135=some (true,2):=by kernel_rfl
theorem TX:Cr Tryz.prog 135 0=some (0,false,1):=by kernel_rfl
theorem UC:Cr Tryz.prog 135 1=some (1,false,1):=by kernel_rfl
theorem gr:Cj Tryz.prog 135=true:=by kernel_rfl
theorem gM:Tryz.prog.stoodInHeld 135=false:=by kernel_rfl
theorem jO:Tryz.prog.eqGuardType Tryz.prog.depth 135=false:=by kernel_rfl
theorem gW:DU Tryz.prog 135=some (.agg #[.int .i64 0,.int .i64 0]):=by kernel_rfl
theorem iW:DP Tryz.prog 136=some (true,2):=by kernel_rfl
theorem TB:Cr Tryz.prog 136 0=some (0,false,1):=by kernel_rfl
theorem V3:Cr Tryz.prog 136 1=some (1,false,1):=by kernel_rfl
theorem k7:Cj Tryz.prog 136=true:=by kernel_rfl
theorem dW:Tryz.prog.stoodInHeld 136=false:=by kernel_rfl
theorem lK:Tryz.prog.eqGuardType Tryz.prog.depth 136=false:=by kernel_rfl
theorem fN:DU Tryz.prog 136=some (.agg #[.int .i64 0,.int .i64 0]):=by kernel_rfl
theorem g8:DP Tryz.prog 137=some (true,1):=by kernel_rfl
theorem UO:Cr Tryz.prog 137 0=some (0,false,1):=by kernel_rfl
theorem fh:Cj Tryz.prog 137=true:=by kernel_rfl
theorem ei:Tryz.prog.stoodInHeld 137=false:=by kernel_rfl
theorem jX:Tryz.prog.eqGuardType Tryz.prog.depth 137=false:=by kernel_rfl
theorem fa:DU Tryz.prog 137=some (.agg #[.pointer none]):=by kernel_rfl
theorem fL:DP Tryz.prog 138=some (true,1):=by kernel_rfl
theorem WC:Cr Tryz.prog 138 0=some (0,false,1):=by kernel_rfl
theorem ed:Cj Tryz.prog 138=true:=by kernel_rfl
theorem iD:Tryz.prog.stoodInHeld 138=false:=by kernel_rfl
theorem ep:Tryz.prog.eqGuardType Tryz.prog.depth 138=false:=by kernel_rfl
theorem jG:DU Tryz.prog 138=some (.agg #[.pointer none]):=by kernel_rfl
theorem jD:DP Tryz.prog 141=some (true,20):=by kernel_rfl
theorem ki:Cj Tryz.prog 141=false:=by kernel_rfl
theorem lU:DU Tryz.prog 141=some (.agg #[.int .u64 0,.int .u64 0,.int .u64 0,.int .u64 0,.int .u64 0,.int .u64 0,.int .u64 0,.int .u64 0,.int .u64 0,.int .u64 0,.int .u64 0,.int .u64 0,.int .u64 0,.int .u64 0,.int .u64 0,.int .u64 0,.int .u64 0,.int .u64 0,.int .u64 0,.int .u64 0]):=by kernel_rfl
theorem fQ:DP Tryz.prog 142=some (false,1):=by kernel_rfl
theorem k9:DU Tryz.prog 142=some (.int .u32 0):=by kernel_rfl
theorem gz:DP Tryz.prog 143=some (true,65):=by kernel_rfl
theorem eT:Cj Tryz.prog 143=false:=by kernel_rfl
theorem dr:DU Tryz.prog 143=some (.agg #[.int .u8 0,.int .u8 0,.int .u8 0,.int .u8 0,.int .u8 0,.int .u8 0,.int .u8 0,.int .u8 0,.int .u8 0,.int .u8 0,.int .u8 0,.int .u8 0,.int .u8 0,.int .u8 0,.int .u8 0,.int .u8 0,.int .u8 0,.int .u8 0,.int .u8 0,.int .u8 0,.int .u8 0,.int .u8 0,.int .u8 0,.int .u8 0,.int .u8 0,.int .u8 0,.int .u8 0,.int .u8 0,.int .u8 0,.int .u8 0,.int .u8 0,.int .u8 0,.int .u8 0,.int .u8 0,.int .u8 0,.int .u8 0,.int .u8 0,.int .u8 0,.int .u8 0,.int .u8 0,.int .u8 0,.int .u8 0,.int .u8 0,.int .u8 0,.int .u8 0,.int .u8 0,.int .u8 0,.int .u8 0,.int .u8 0,.int .u8 0,.int .u8 0,.int .u8 0,.int .u8 0,.int .u8 0,.int .u8 0,.int .u8 0,.int .u8 0,.int .u8 0,.int .u8 0,.int .u8 0,.int .u8 0,.int .u8 0,.int .u8 0,.int .u8 0,.int .u8 0]):=by kernel_rfl
theorem eP:DP Tryz.prog 149=some (true,2):=by kernel_rfl
theorem UH:Cr Tryz.prog 149 0=some (0,false,1):=by kernel_rfl
theorem Uy:Cr Tryz.prog 149 1=some (1,false,1):=by kernel_rfl
theorem jn:Cj Tryz.prog 149=true:=by kernel_rfl
theorem jC:Tryz.prog.stoodInHeld 149=false:=by kernel_rfl
theorem iH:Tryz.prog.eqGuardType Tryz.prog.depth 149=false:=by kernel_rfl
theorem mJ:DU Tryz.prog 149=some (.agg #[.slice none 0 0,.int .i64 0]):=by kernel_rfl
theorem jm:DP Tryz.prog 150=some (true,2):=by kernel_rfl
theorem Vp:Cr Tryz.prog 150 0=some (0,false,1):=by kernel_rfl
theorem WO:Cr Tryz.prog 150 1=some (1,false,1):=by kernel_rfl
theorem ff:Cj Tryz.prog 150=true:=by kernel_rfl
theorem jr:Tryz.prog.stoodInHeld 150=false:=by kernel_rfl
theorem jB:Tryz.prog.eqGuardType Tryz.prog.depth 150=false:=by kernel_rfl
theorem eW:DU Tryz.prog 150=some (.agg #[.slice none 0 0,.int .i64 0]):=by kernel_rfl
theorem kU:DP Tryz.prog 154=some (true,32):=by kernel_rfl
theorem gU:Cj Tryz.prog 154=false:=by kernel_rfl
theorem gm:DU Tryz.prog 154=some (.agg #[.int .u8 0,.int .u8 0,.int .u8 0,.int .u8 0,.int .u8 0,.int .u8 0,.int .u8 0,.int .u8 0,.int .u8 0,.int .u8 0,.int .u8 0,.int .u8 0,.int .u8 0,.int .u8 0,.int .u8 0,.int .u8 0,.int .u8 0,.int .u8 0,.int .u8 0,.int .u8 0,.int .u8 0,.int .u8 0,.int .u8 0,.int .u8 0,.int .u8 0,.int .u8 0,.int .u8 0,.int .u8 0,.int .u8 0,.int .u8 0,.int .u8 0,.int .u8 0]):=by kernel_rfl
theorem j9:DP Tryz.prog 155=some (true,64):=by kernel_rfl
theorem gx:Cj Tryz.prog 155=false:=by kernel_rfl
theorem iP:DU Tryz.prog 155=some (.agg #[.int .u8 0,.int .u8 0,.int .u8 0,.int .u8 0,.int .u8 0,.int .u8 0,.int .u8 0,.int .u8 0,.int .u8 0,.int .u8 0,.int .u8 0,.int .u8 0,.int .u8 0,.int .u8 0,.int .u8 0,.int .u8 0,.int .u8 0,.int .u8 0,.int .u8 0,.int .u8 0,.int .u8 0,.int .u8 0,.int .u8 0,.int .u8 0,.int .u8 0,.int .u8 0,.int .u8 0,.int .u8 0,.int .u8 0,.int .u8 0,.int .u8 0,.int .u8 0,.int .u8 0,.int .u8 0,.int .u8 0,.int .u8 0,.int .u8 0,.int .u8 0,.int .u8 0,.int .u8 0,.int .u8 0,.int .u8 0,.int .u8 0,.int .u8 0,.int .u8 0,.int .u8 0,.int .u8 0,.int .u8 0,.int .u8 0,.int .u8 0,.int .u8 0,.int .u8 0,.int .u8 0,.int .u8 0,.int .u8 0,.int .u8 0,.int .u8 0,.int .u8 0,.int .u8 0,.int .u8 0,.int .u8 0,.int .u8 0,.int .u8 0,.int .u8 0]):=by kernel_rfl
theorem ix:DP Tryz.prog 159=some (true,4):=by kernel_rfl
theorem VN:Cr Tryz.prog 159 0=some (0,false,1):=by kernel_rfl
theorem V0:Cr Tryz.prog 159 1=some (1,false,1):=by kernel_rfl
theorem T2:Cr Tryz.prog 159 2=some (2,false,1):=by kernel_rfl
theorem TS:Cr Tryz.prog 159 3=some (3,false,1):=by kernel_rfl
theorem ke:Cj Tryz.prog 159=true:=by kernel_rfl
theorem dg:DU Tryz.prog 159=some (.agg #[.pointer none,.pointer none,.pointer none,.string ⟨#[]⟩]):=by kernel_rfl
theorem iY:DP Tryz.prog 160=some (true,4):=by kernel_rfl
theorem UL:Cr Tryz.prog 160 0=some (0,false,1):=by kernel_rfl
theorem TQ:Cr Tryz.prog 160 1=some (1,false,1):=by kernel_rfl
theorem WH:Cr Tryz.prog 160 2=some (2,false,1):=by kernel_rfl
theorem S9:Cr Tryz.prog 160 3=some (3,false,1):=by kernel_rfl
theorem iy:Cj Tryz.prog 160=true:=by kernel_rfl
theorem jv:DU Tryz.prog 160=some (.agg #[.pointer none,.pointer none,.pointer none,.string ⟨#[]⟩]):=by kernel_rfl
theorem d9:DP Tryz.prog 161=some (true,0):=by kernel_rfl
theorem fg:Cj Tryz.prog 161=false:=by kernel_rfl
theorem d8:DU Tryz.prog 161=some (.agg #[]):=by kernel_rfl
theorem gh:DP Tryz.prog 162=some (true,0):=by kernel_rfl
theorem Vv:Cr Tryz.prog 162 0=some (0,true,0):=by kernel_rfl
theorem eZ:Cj Tryz.prog 162=true:=by kernel_rfl
theorem kC:DU Tryz.prog 162=some (.agg #[]):=by kernel_rfl
theorem di:DP Tryz.prog 163=some (true,0):=by kernel_rfl
theorem UJ:Cr Tryz.prog 163 0=some (0,true,0):=by kernel_rfl
theorem lH:Cj Tryz.prog 163=true:=by kernel_rfl
theorem mE:DU Tryz.prog 163=some (.agg #[]):=by kernel_rfl
theorem gw:DP Tryz.prog 164=some (false,1):=by kernel_rfl
theorem lh:DU Tryz.prog 164=some (.int .u8 0):=by kernel_rfl
theorem d4:DP Tryz.prog 165=some (false,1):=by kernel_rfl
theorem lg:DU Tryz.prog 165=some (.int .u8 0):=by kernel_rfl
theorem lC:DP Tryz.prog 167=some (false,1):=by kernel_rfl
theorem kP:DU Tryz.prog 167=some (.int .i32 0):=by kernel_rfl
theorem gD:DP Tryz.prog 168=some (false,1):=by kernel_rfl
theorem db:DU Tryz.prog 168=some (.int .i32 0):=by kernel_rfl
theorem eH:DP Tryz.prog 169=some (true,11):=by kernel_rfl
theorem Uo:Cr Tryz.prog 169 0=some (0,false,1):=by kernel_rfl
theorem U5:Cr Tryz.prog 169 1=some (1,false,1):=by kernel_rfl
theorem Vh:Cr Tryz.prog 169 2=some (2,false,1):=by kernel_rfl
theorem VP:Cr Tryz.prog 169 3=some (3,false,1):=by kernel_rfl
theorem VX:Cr Tryz.prog 169 4=some (4,false,1):=by kernel_rfl
theorem Tf:Cr Tryz.prog 169 5=some (5,false,1):=by kernel_rfl
theorem VA:Cr Tryz.prog 169 6=some (6,false,1):=by kernel_rfl
theorem UB:Cr Tryz.prog 169 7=some (7,false,1):=by kernel_rfl
theorem TF:Cr Tryz.prog 169 8=some (8,false,1):=by kernel_rfl
theorem T4:Cr Tryz.prog 169 9=some (9,false,1):=by kernel_rfl
theorem RJ:Cr Tryz.prog 169 10=some (10,false,1):=by kernel_rfl
theorem jc:Cj Tryz.prog 169=true:=by kernel_rfl
theorem jl:DU Tryz.prog 169=some (.agg #[.int .u64 0,.int .u64 0,.int .u32 0,.int .u8 0,.int .u8 0,.int .u8 0,.int .u8 0,.nilFunc,.pointer none,.int .i32 0,.int .i32 0]):=by kernel_rfl
theorem jR:DP Tryz.prog 170=some (true,11):=by kernel_rfl
theorem WX:Cr Tryz.prog 170 0=some (0,false,1):=by kernel_rfl
theorem UA:Cr Tryz.prog 170 1=some (1,false,1):=by kernel_rfl
theorem S3:Cr Tryz.prog 170 2=some (2,false,1):=by kernel_rfl
theorem WU:Cr Tryz.prog 170 3=some (3,false,1):=by kernel_rfl
theorem Vi:Cr Tryz.prog 170 4=some (4,false,1):=by kernel_rfl
theorem Tl:Cr Tryz.prog 170 5=some (5,false,1):=by kernel_rfl
theorem U6:Cr Tryz.prog 170 6=some (6,false,1):=by kernel_rfl
theorem WM:Cr Tryz.prog 170 7=some (7,false,1):=by kernel_rfl
theorem S6:Cr Tryz.prog 170 8=some (8,false,1):=by kernel_rfl
theorem TN:Cr Tryz.prog 170 9=some (9,false,1):=by kernel_rfl
theorem P0:Cr Tryz.prog 170 10=some (10,false,1):=by kernel_rfl
theorem fD:Cj Tryz.prog 170=true:=by kernel_rfl
theorem iS:DU Tryz.prog 170=some (.agg #[.int .u64 0,.int .u64 0,.int .u32 0,.int .u8 0,.int .u8 0,.int .u8 0,.int .u8 0,.nilFunc,.pointer none,.int .i32 0,.int .i32 0]):=by kernel_rfl
theorem cal2:AD Tryz.prog 2=true:=by kernel_rfl
theorem cal3:AD Tryz.prog 3=true:=by kernel_rfl
theorem cal4:AD Tryz.prog 4=true:=by kernel_rfl
theorem cal5:AD Tryz.prog 5=true:=by kernel_rfl
theorem cal6:AD Tryz.prog 6=true:=by kernel_rfl
theorem cal7:AD Tryz.prog 7=true:=by kernel_rfl
theorem cal8:AD Tryz.prog 8=true:=by kernel_rfl
theorem cal9:AD Tryz.prog 9=true:=by kernel_rfl
theorem rL:AD Tryz.prog 10=true:=by kernel_rfl
theorem qw:AD Tryz.prog 11=true:=by kernel_rfl
theorem sC:AD Tryz.prog 12=true:=by kernel_rfl
theorem sx:AD Tryz.prog 13=true:=by kernel_rfl
theorem sn:AD Tryz.prog 14=true:=by kernel_rfl
theorem ow:AD Tryz.prog 15=true:=by kernel_rfl
theorem rV:AD Tryz.prog 16=true:=by kernel_rfl
theorem qu:AD Tryz.prog 17=true:=by kernel_rfl
theorem uM:AD Tryz.prog 18=true:=by kernel_rfl
theorem sU:AD Tryz.prog 19=true:=by kernel_rfl
theorem tW:AD Tryz.prog 20=true:=by kernel_rfl
theorem sD:AD Tryz.prog 21=true:=by kernel_rfl
theorem tD:AD Tryz.prog 22=true:=by kernel_rfl
theorem s8:AD Tryz.prog 23=true:=by kernel_rfl
theorem tv:AD Tryz.prog 24=true:=by kernel_rfl
theorem tQ:AD Tryz.prog 25=true:=by kernel_rfl
theorem tg:AD Tryz.prog 26=true:=by kernel_rfl
theorem s7:AD Tryz.prog 27=true:=by kernel_rfl
theorem qh:AD Tryz.prog 28=true:=by kernel_rfl
theorem qf:AD Tryz.prog 29=true:=by kernel_rfl
theorem tj:AD Tryz.prog 30=true:=by kernel_rfl
theorem rh:AD Tryz.prog 31=true:=by kernel_rfl
theorem pC:AD Tryz.prog 32=true:=by kernel_rfl
theorem sE:AD Tryz.prog 33=true:=by kernel_rfl
theorem qz:AD Tryz.prog 34=true:=by kernel_rfl
theorem tZ:AD Tryz.prog 35=true:=by kernel_rfl
theorem qH:AD Tryz.prog 36=true:=by kernel_rfl
theorem pG:AD Tryz.prog 37=true:=by kernel_rfl
theorem tn:AD Tryz.prog 38=true:=by kernel_rfl
theorem pw:AD Tryz.prog 39=true:=by kernel_rfl
theorem qn:AD Tryz.prog 40=true:=by kernel_rfl
theorem uG:AD Tryz.prog 41=true:=by kernel_rfl
theorem qU:AD Tryz.prog 42=true:=by kernel_rfl
theorem uR:AD Tryz.prog 43=true:=by kernel_rfl
theorem t7:AD Tryz.prog 44=true:=by kernel_rfl
theorem tm:AD Tryz.prog 45=true:=by kernel_rfl
theorem sh:AD Tryz.prog 46=true:=by kernel_rfl
theorem ry:AD Tryz.prog 47=true:=by kernel_rfl
theorem t8:AD Tryz.prog 48=true:=by kernel_rfl
theorem pH:AD Tryz.prog 49=true:=by kernel_rfl
theorem qW:AD Tryz.prog 50=true:=by kernel_rfl
theorem tq:AD Tryz.prog 51=true:=by kernel_rfl
theorem sj:AD Tryz.prog 52=true:=by kernel_rfl
theorem rD:AD Tryz.prog 53=true:=by kernel_rfl
theorem rf:AD Tryz.prog 54=true:=by kernel_rfl
theorem qm:AD Tryz.prog 55=true:=by kernel_rfl
theorem qc:AD Tryz.prog 56=true:=by kernel_rfl
theorem rR:AD Tryz.prog 57=true:=by kernel_rfl
theorem rS:AD Tryz.prog 58=true:=by kernel_rfl
theorem qJ:AD Tryz.prog 59=true:=by kernel_rfl
theorem sX:AD Tryz.prog 60=true:=by kernel_rfl
theorem pS:AD Tryz.prog 61=true:=by kernel_rfl
theorem tH:AD Tryz.prog 62=true:=by kernel_rfl
theorem sH:AD Tryz.prog 63=true:=by kernel_rfl
theorem qL:AD Tryz.prog 64=true:=by kernel_rfl
theorem rb:AD Tryz.prog 65=true:=by kernel_rfl
theorem uX:AD Tryz.prog 66=true:=by kernel_rfl
theorem rk:AD Tryz.prog 67=true:=by kernel_rfl
theorem sr:AD Tryz.prog 68=true:=by kernel_rfl
theorem oe:AD Tryz.prog 69=true:=by kernel_rfl
theorem pD:AD Tryz.prog 70=true:=by kernel_rfl
theorem rE:AD Tryz.prog 71=true:=by kernel_rfl
theorem uS:AD Tryz.prog 72=true:=by kernel_rfl
theorem pz:AD Tryz.prog 73=true:=by kernel_rfl
theorem rg:AD Tryz.prog 74=true:=by kernel_rfl
theorem uA:AD Tryz.prog 75=true:=by kernel_rfl
theorem ph:AD Tryz.prog 76=true:=by kernel_rfl
theorem r8:AD Tryz.prog 77=true:=by kernel_rfl
theorem tk:AD Tryz.prog 78=true:=by kernel_rfl
theorem pf:AD Tryz.prog 79=true:=by kernel_rfl
theorem ot:AD Tryz.prog 80=true:=by kernel_rfl
theorem tA:AD Tryz.prog 81=true:=by kernel_rfl
theorem px:AD Tryz.prog 82=true:=by kernel_rfl
theorem qq:AD Tryz.prog 83=true:=by kernel_rfl
theorem qG:AD Tryz.prog 84=true:=by kernel_rfl
theorem pJ:AD Tryz.prog 85=true:=by kernel_rfl
theorem tE:AD Tryz.prog 86=true:=by kernel_rfl
theorem tY:AD Tryz.prog 87=true:=by kernel_rfl
theorem oq:AD Tryz.prog 88=true:=by kernel_rfl
theorem o0:AD Tryz.prog 89=true:=by kernel_rfl
theorem rQ:AD Tryz.prog 90=true:=by kernel_rfl
theorem uL:AD Tryz.prog 91=true:=by kernel_rfl
theorem sO:AD Tryz.prog 92=true:=by kernel_rfl
theorem pZ:AD Tryz.prog 93=true:=by kernel_rfl
theorem rA:AD Tryz.prog 94=true:=by kernel_rfl
theorem uT:AD Tryz.prog 95=true:=by kernel_rfl
theorem sV:AD Tryz.prog 97=true:=by kernel_rfl
theorem rX:AD Tryz.prog 98=true:=by kernel_rfl
theorem rW:AD Tryz.prog 99=true:=by kernel_rfl
theorem dm:AD Tryz.prog 100=true:=by kernel_rfl
theorem iu:AD Tryz.prog 101=true:=by kernel_rfl
theorem gR:AD Tryz.prog 102=true:=by kernel_rfl
theorem gP:AD Tryz.prog 103=true:=by kernel_rfl
theorem fF:AD Tryz.prog 104=true:=by kernel_rfl
theorem lT:AD Tryz.prog 105=true:=by kernel_rfl
theorem fo:AD Tryz.prog 106=true:=by kernel_rfl
theorem fu:AD Tryz.prog 107=true:=by kernel_rfl
theorem kf:AD Tryz.prog 108=true:=by kernel_rfl
theorem eG:AD Tryz.prog 109=true:=by kernel_rfl
theorem dh:AD Tryz.prog 110=true:=by kernel_rfl
theorem lM:AD Tryz.prog 111=true:=by kernel_rfl
theorem gc:AD Tryz.prog 112=true:=by kernel_rfl
theorem fP:AD Tryz.prog 113=true:=by kernel_rfl
theorem iq:AD Tryz.prog 114=true:=by kernel_rfl
theorem dj:AD Tryz.prog 115=true:=by kernel_rfl
theorem j8:AD Tryz.prog 116=true:=by kernel_rfl
theorem dk:AD Tryz.prog 117=true:=by kernel_rfl
theorem ip:AD Tryz.prog 118=true:=by kernel_rfl
theorem kK:AD Tryz.prog 119=true:=by kernel_rfl
theorem kY:AD Tryz.prog 120=true:=by kernel_rfl
theorem iL:AD Tryz.prog 121=true:=by kernel_rfl
theorem lW:AD Tryz.prog 122=true:=by kernel_rfl
theorem eo:AD Tryz.prog 123=true:=by kernel_rfl
theorem mG:AD Tryz.prog 125=true:=by kernel_rfl
theorem eY:AD Tryz.prog 126=true:=by kernel_rfl
theorem eO:AD Tryz.prog 128=true:=by kernel_rfl
theorem fX:AD Tryz.prog 129=true:=by kernel_rfl
theorem ja:AD Tryz.prog 130=true:=by kernel_rfl
theorem lA:AD Tryz.prog 131=true:=by kernel_rfl
theorem gj:AD Tryz.prog 132=true:=by kernel_rfl
theorem lL:AD Tryz.prog 133=true:=by kernel_rfl
theorem fY:AD Tryz.prog 134=true:=by kernel_rfl
theorem iE:AD Tryz.prog 135=true:=by kernel_rfl
theorem kg:AD Tryz.prog 136=true:=by kernel_rfl
theorem dx:AD Tryz.prog 137=true:=by kernel_rfl
theorem jz:AD Tryz.prog 138=true:=by kernel_rfl
theorem kO:AD Tryz.prog 139=true:=by kernel_rfl
theorem k8:AD Tryz.prog 140=true:=by kernel_rfl
theorem fz:AD Tryz.prog 141=true:=by kernel_rfl
theorem eR:AD Tryz.prog 142=true:=by kernel_rfl
theorem jZ:AD Tryz.prog 143=true:=by kernel_rfl
theorem dU:AD Tryz.prog 144=true:=by kernel_rfl
theorem lu:AD Tryz.prog 145=true:=by kernel_rfl
theorem kR:AD Tryz.prog 146=true:=by kernel_rfl
theorem lN:AD Tryz.prog 147=true:=by kernel_rfl
theorem jT:AD Tryz.prog 148=true:=by kernel_rfl
theorem gy:AD Tryz.prog 149=true:=by kernel_rfl
theorem kM:AD Tryz.prog 150=true:=by kernel_rfl
theorem lr:AD Tryz.prog 151=true:=by kernel_rfl
theorem lO:AD Tryz.prog 152=true:=by kernel_rfl
theorem i6:AD Tryz.prog 153=true:=by kernel_rfl
theorem dZ:AD Tryz.prog 154=true:=by kernel_rfl
theorem eC:AD Tryz.prog 155=true:=by kernel_rfl
theorem fS:AD Tryz.prog 156=true:=by kernel_rfl
theorem lV:AD Tryz.prog 157=true:=by kernel_rfl
theorem jq:AD Tryz.prog 158=true:=by kernel_rfl
theorem lb:AD Tryz.prog 159=true:=by kernel_rfl
theorem eQ:AD Tryz.prog 160=true:=by kernel_rfl
theorem eg:AD Tryz.prog 161=true:=by kernel_rfl
theorem kE:AD Tryz.prog 162=true:=by kernel_rfl
theorem dT:AD Tryz.prog 163=true:=by kernel_rfl
theorem lG:AD Tryz.prog 164=true:=by kernel_rfl
theorem jx:AD Tryz.prog 165=true:=by kernel_rfl
theorem ir:AD Tryz.prog 166=true:=by kernel_rfl
theorem kq:AD Tryz.prog 167=true:=by kernel_rfl
theorem gQ:AD Tryz.prog 168=true:=by kernel_rfl
theorem eV:AD Tryz.prog 169=true:=by kernel_rfl
theorem df:AD Tryz.prog 170=true:=by kernel_rfl
theorem mK:AD Tryz.prog 171=true:=by kernel_rfl
theorem fd:AD Tryz.prog 196=true:=by kernel_rfl
theorem cal0:AD Tryz.prog 0=false:=by kernel_rfl
theorem cal1:AD Tryz.prog 1=false:=by kernel_rfl
theorem ou:AD Tryz.prog 96=false:=by kernel_rfl
theorem d5:AD Tryz.prog 124=false:=by kernel_rfl
theorem f8:AD Tryz.prog 127=false:=by kernel_rfl
theorem dJ:AD Tryz.prog 172=false:=by kernel_rfl
theorem kN:AD Tryz.prog 173=false:=by kernel_rfl
theorem jE:AD Tryz.prog 174=false:=by kernel_rfl
theorem jU:AD Tryz.prog 175=false:=by kernel_rfl
theorem eN:AD Tryz.prog 176=false:=by kernel_rfl
theorem kZ:AD Tryz.prog 177=false:=by kernel_rfl
theorem eJ:AD Tryz.prog 178=false:=by kernel_rfl
theorem jb:AD Tryz.prog 179=false:=by kernel_rfl
theorem kF:AD Tryz.prog 180=false:=by kernel_rfl
theorem dq:AD Tryz.prog 181=false:=by kernel_rfl
theorem eD:AD Tryz.prog 182=false:=by kernel_rfl
theorem iT:AD Tryz.prog 183=false:=by kernel_rfl
theorem lB:AD Tryz.prog 184=false:=by kernel_rfl
theorem lR:AD Tryz.prog 185=false:=by kernel_rfl
theorem kv:AD Tryz.prog 186=false:=by kernel_rfl
theorem eA:AD Tryz.prog 187=false:=by kernel_rfl
theorem eh:AD Tryz.prog 188=false:=by kernel_rfl
theorem gH:AD Tryz.prog 189=false:=by kernel_rfl
theorem kj:AD Tryz.prog 190=false:=by kernel_rfl
theorem lP:AD Tryz.prog 191=false:=by kernel_rfl
theorem iV:AD Tryz.prog 192=false:=by kernel_rfl
theorem ji:AD Tryz.prog 193=false:=by kernel_rfl
theorem ib:AD Tryz.prog 194=false:=by kernel_rfl
theorem kV:AD Tryz.prog 195=false:=by kernel_rfl
theorem tyS0:type_of% (And.intro @shp2 (And.intro @zro2 (And.intro @shp3 (And.intro @zro3 (And.intro @shp4 (And.intro @zro4 (And.intro @shp5 (And.intro @oP (And.intro @shp6 (And.intro @zro6 (And.intro @shp7 (And.intro @fj (And.intro @ka (And.intro @fK (And.intro @lZ (And.intro @bok7 (And.intro @zro7 (And.intro @shp8 (And.intro @dc (And.intro @fi (And.intro @dz (And.intro @dp (And.intro @bok8 (And.intro @zro8 (And.intro @shp9 (And.intro @zro9 (And.intro @rO (And.intro @rt (And.intro @ua (And.intro @rY (And.intro @tG (And.intro @tF (And.intro @sT (And.intro @aT (And.intro @bL (And.intro @ov (And.intro @td (And.intro @ra (And.intro @Zk (And.intro @Yu (And.intro @qb (And.intro @th (And.intro @si (And.intro @pV (And.intro @qZ (And.intro @rn (And.intro @sZ (And.intro @uD (And.intro @qT (And.intro @Yy (And.intro @rK (And.intro @rm (And.intro @ta (And.intro @Z5 (And.intro @pn (And.intro @ro (And.intro @rB (And.intro @ox (And.intro @p8 (And.intro @sS (And.intro @uJ (And.intro @pL (And.intro @da (And.intro @sf (And.intro @rZ (And.intro @uQ (And.intro @qQ (And.intro @YQ (And.intro @rC (And.intro @bG (And.intro @YZ (And.intro @Xb (And.intro @Z4 (And.intro @ZN (And.intro @qr (And.intro @qB (And.intro @qP (And.intro @sK (And.intro @pR (And.intro @aa (And.intro @YG (And.intro @Z2 (And.intro @ZW (And.intro @Xh (And.intro @uU (And.intro @uO (And.intro @uF (And.intro @YU (And.intro @tB (And.intro @ak (And.intro @YJ (And.intro @aR (And.intro @YM (And.intro @Yb (And.intro @Yh (And.intro @qS (And.intro @sv (And.intro @sR (And.intro @sy (@tT)))))))))))))))))))))))))))))))))))))))))))))))))))))))))))))))))))))))))))))))))))))))))))))))))))):=And.intro @shp2 (And.intro @zro2 (And.intro @shp3 (And.intro @zro3 (And.intro @shp4 (And.intro @zro4 (And.intro @shp5 (And.intro @oP (And.intro @shp6 (And.intro @zro6 (And.intro @shp7 (And.intro @fj (And.intro @ka (And.intro @fK (And.intro @lZ (And.intro @bok7 (And.intro @zro7 (And.intro @shp8 (And.intro @dc (And.intro @fi (And.intro @dz (And.intro @dp (And.intro @bok8 (And.intro @zro8 (And.intro @shp9 (And.intro @zro9 (And.intro @rO (And.intro @rt (And.intro @ua (And.intro @rY (And.intro @tG (And.intro @tF (And.intro @sT (And.intro @aT (And.intro @bL (And.intro @ov (And.intro @td (And.intro @ra (And.intro @Zk (And.intro @Yu (And.intro @qb (And.intro @th (And.intro @si (And.intro @pV (And.intro @qZ (And.intro @rn (And.intro @sZ (And.intro @uD (And.intro @qT (And.intro @Yy (And.intro @rK (And.intro @rm (And.intro @ta (And.intro @Z5 (And.intro @pn (And.intro @ro (And.intro @rB (And.intro @ox (And.intro @p8 (And.intro @sS (And.intro @uJ (And.intro @pL (And.intro @da (And.intro @sf (And.intro @rZ (And.intro @uQ (And.intro @qQ (And.intro @YQ (And.intro @rC (And.intro @bG (And.intro @YZ (And.intro @Xb (And.intro @Z4 (And.intro @ZN (And.intro @qr (And.intro @qB (And.intro @qP (And.intro @sK (And.intro @pR (And.intro @aa (And.intro @YG (And.intro @Z2 (And.intro @ZW (And.intro @Xh (And.intro @uU (And.intro @uO (And.intro @uF (And.intro @YU (And.intro @tB (And.intro @ak (And.intro @YJ (And.intro @aR (And.intro @YM (And.intro @Yb (And.intro @Yh (And.intro @qS (And.intro @sv (And.intro @sR (And.intro @sy (@tT)))))))))))))))))))))))))))))))))))))))))))))))))))))))))))))))))))))))))))))))))))))))))))))))))))
theorem tyS1:type_of% (And.intro @ah (And.intro @Zy (And.intro @Yp (And.intro @YX (And.intro @Y8 (And.intro @ZZ (And.intro @s9 (And.intro @pU (And.intro @sm (And.intro @kJ (And.intro @qk (And.intro @Yi (And.intro @bX (And.intro @qx (And.intro @rU (And.intro @sw (And.intro @qC (And.intro @rx (And.intro @ZA (And.intro @aj (And.intro @ru (And.intro @pg (And.intro @qv (And.intro @pP (And.intro @tp (And.intro @qY (And.intro @Xf (And.intro @tU (And.intro @uN (And.intro @om (And.intro @Ym (And.intro @Xw (And.intro @aM (And.intro @ZR (And.intro @Zs (And.intro @qX (And.intro @qN (And.intro @tN (And.intro @qK (And.intro @uW (And.intro @aX (And.intro @Zj (And.intro @bT (And.intro @bR (And.intro @X3 (And.intro @tf (And.intro @ql (And.intro @r9 (And.intro @tb (And.intro @oh (And.intro @Xz (And.intro @Xg (And.intro @Zb (And.intro @YO (And.intro @rM (And.intro @sd (And.intro @re (And.intro @qg (And.intro @pO (And.intro @XZ (And.intro @aQ (And.intro @YE (And.intro @Y4 (And.intro @pM (And.intro @uP (And.intro @qa (And.intro @Zi (And.intro @uZ (And.intro @pY (And.intro @tC (And.intro @Zd (And.intro @ai (And.intro @Z9 (And.intro @Yn (And.intro @Yx (And.intro @pF (And.intro @r7 (And.intro @tS (And.intro @qA (And.intro @rz (And.intro @ZP (And.intro @al (And.intro @ZQ (And.intro @Zn (And.intro @bO (And.intro @tR (And.intro @pQ (And.intro @pc (And.intro @ti (And.intro @qy (And.intro @sY (And.intro @qt (And.intro @p7 (And.intro @Z7 (And.intro @tr (And.intro @Z6 (And.intro @bV (And.intro @pq (And.intro @qs (@tO)))))))))))))))))))))))))))))))))))))))))))))))))))))))))))))))))))))))))))))))))))))))))))))))))))):=And.intro @ah (And.intro @Zy (And.intro @Yp (And.intro @YX (And.intro @Y8 (And.intro @ZZ (And.intro @s9 (And.intro @pU (And.intro @sm (And.intro @kJ (And.intro @qk (And.intro @Yi (And.intro @bX (And.intro @qx (And.intro @rU (And.intro @sw (And.intro @qC (And.intro @rx (And.intro @ZA (And.intro @aj (And.intro @ru (And.intro @pg (And.intro @qv (And.intro @pP (And.intro @tp (And.intro @qY (And.intro @Xf (And.intro @tU (And.intro @uN (And.intro @om (And.intro @Ym (And.intro @Xw (And.intro @aM (And.intro @ZR (And.intro @Zs (And.intro @qX (And.intro @qN (And.intro @tN (And.intro @qK (And.intro @uW (And.intro @aX (And.intro @Zj (And.intro @bT (And.intro @bR (And.intro @X3 (And.intro @tf (And.intro @ql (And.intro @r9 (And.intro @tb (And.intro @oh (And.intro @Xz (And.intro @Xg (And.intro @Zb (And.intro @YO (And.intro @rM (And.intro @sd (And.intro @re (And.intro @qg (And.intro @pO (And.intro @XZ (And.intro @aQ (And.intro @YE (And.intro @Y4 (And.intro @pM (And.intro @uP (And.intro @qa (And.intro @Zi (And.intro @uZ (And.intro @pY (And.intro @tC (And.intro @Zd (And.intro @ai (And.intro @Z9 (And.intro @Yn (And.intro @Yx (And.intro @pF (And.intro @r7 (And.intro @tS (And.intro @qA (And.intro @rz (And.intro @ZP (And.intro @al (And.intro @ZQ (And.intro @Zn (And.intro @bO (And.intro @tR (And.intro @pQ (And.intro @pc (And.intro @ti (And.intro @qy (And.intro @sY (And.intro @qt (And.intro @p7 (And.intro @Z7 (And.intro @tr (And.intro @Z6 (And.intro @bV (And.intro @pq (And.intro @qs (@tO)))))))))))))))))))))))))))))))))))))))))))))))))))))))))))))))))))))))))))))))))))))))))))))))))))
theorem tyS2:type_of% (And.intro @bJ (And.intro @YN (And.intro @pA (And.intro @tK (And.intro @rT (And.intro @rr (And.intro @qO (And.intro @uB (And.intro @pK (And.intro @pT (And.intro @qV (And.intro @aF (And.intro @bS (And.intro @sL (And.intro @pd (And.intro @qF (And.intro @sF (And.intro @uY (And.intro @sa (And.intro @qE (And.intro @tV (And.intro @rF (And.intro @rj (And.intro @gJ (And.intro @kB (And.intro @mM (And.intro @UQ (And.intro @Tx (And.intro @T8 (And.intro @UW (And.intro @mC (And.intro @ly (And.intro @l6 (And.intro @ic (And.intro @jP (And.intro @VD (And.intro @US (And.intro @UT (And.intro @U0 (And.intro @jM (And.intro @iO (And.intro @lQ (And.intro @dS (And.intro @iU (And.intro @iw (And.intro @lY (And.intro @j7 (And.intro @gT (And.intro @jk (And.intro @la (And.intro @fp (And.intro @jf (And.intro @ek (And.intro @mL (And.intro @iz (And.intro @hJ (And.intro @kH (And.intro @TX (And.intro @UC (And.intro @gr (And.intro @gM (And.intro @jO (And.intro @gW (And.intro @iW (And.intro @TB (And.intro @V3 (And.intro @k7 (And.intro @dW (And.intro @lK (And.intro @fN (And.intro @g8 (And.intro @UO (And.intro @fh (And.intro @ei (And.intro @jX (And.intro @fa (And.intro @fL (And.intro @WC (And.intro @ed (And.intro @iD (And.intro @ep (And.intro @jG (And.intro @jD (And.intro @ki (And.intro @lU (And.intro @fQ (And.intro @k9 (And.intro @gz (And.intro @eT (And.intro @dr (And.intro @eP (And.intro @UH (And.intro @Uy (And.intro @jn (And.intro @jC (And.intro @iH (And.intro @mJ (And.intro @jm (And.intro @Vp (@WO)))))))))))))))))))))))))))))))))))))))))))))))))))))))))))))))))))))))))))))))))))))))))))))))))))):=And.intro @bJ (And.intro @YN (And.intro @pA (And.intro @tK (And.intro @rT (And.intro @rr (And.intro @qO (And.intro @uB (And.intro @pK (And.intro @pT (And.intro @qV (And.intro @aF (And.intro @bS (And.intro @sL (And.intro @pd (And.intro @qF (And.intro @sF (And.intro @uY (And.intro @sa (And.intro @qE (And.intro @tV (And.intro @rF (And.intro @rj (And.intro @gJ (And.intro @kB (And.intro @mM (And.intro @UQ (And.intro @Tx (And.intro @T8 (And.intro @UW (And.intro @mC (And.intro @ly (And.intro @l6 (And.intro @ic (And.intro @jP (And.intro @VD (And.intro @US (And.intro @UT (And.intro @U0 (And.intro @jM (And.intro @iO (And.intro @lQ (And.intro @dS (And.intro @iU (And.intro @iw (And.intro @lY (And.intro @j7 (And.intro @gT (And.intro @jk (And.intro @la (And.intro @fp (And.intro @jf (And.intro @ek (And.intro @mL (And.intro @iz (And.intro @hJ (And.intro @kH (And.intro @TX (And.intro @UC (And.intro @gr (And.intro @gM (And.intro @jO (And.intro @gW (And.intro @iW (And.intro @TB (And.intro @V3 (And.intro @k7 (And.intro @dW (And.intro @lK (And.intro @fN (And.intro @g8 (And.intro @UO (And.intro @fh (And.intro @ei (And.intro @jX (And.intro @fa (And.intro @fL (And.intro @WC (And.intro @ed (And.intro @iD (And.intro @ep (And.intro @jG (And.intro @jD (And.intro @ki (And.intro @lU (And.intro @fQ (And.intro @k9 (And.intro @gz (And.intro @eT (And.intro @dr (And.intro @eP (And.intro @UH (And.intro @Uy (And.intro @jn (And.intro @jC (And.intro @iH (And.intro @mJ (And.intro @jm (And.intro @Vp (@WO)))))))))))))))))))))))))))))))))))))))))))))))))))))))))))))))))))))))))))))))))))))))))))))))))))
theorem tyS3:type_of% (And.intro @ff (And.intro @jr (And.intro @jB (And.intro @eW (And.intro @kU (And.intro @gU (And.intro @gm (And.intro @j9 (And.intro @gx (And.intro @iP (And.intro @ix (And.intro @VN (And.intro @V0 (And.intro @T2 (And.intro @TS (And.intro @ke (And.intro @dg (And.intro @iY (And.intro @UL (And.intro @TQ (And.intro @WH (And.intro @S9 (And.intro @iy (And.intro @jv (And.intro @d9 (And.intro @fg (And.intro @d8 (And.intro @gh (And.intro @Vv (And.intro @eZ (And.intro @kC (And.intro @di (And.intro @UJ (And.intro @lH (And.intro @mE (And.intro @gw (And.intro @lh (And.intro @d4 (And.intro @lg (And.intro @lC (And.intro @kP (And.intro @gD (And.intro @db (And.intro @eH (And.intro @Uo (And.intro @U5 (And.intro @Vh (And.intro @VP (And.intro @VX (And.intro @Tf (And.intro @VA (And.intro @UB (And.intro @TF (And.intro @T4 (And.intro @RJ (And.intro @jc (And.intro @jl (And.intro @jR (And.intro @WX (And.intro @UA (And.intro @S3 (And.intro @WU (And.intro @Vi (And.intro @Tl (And.intro @U6 (And.intro @WM (And.intro @S6 (And.intro @TN (And.intro @P0 (And.intro @fD (And.intro @iS (And.intro @cal2 (And.intro @cal3 (And.intro @cal4 (And.intro @cal5 (And.intro @cal6 (And.intro @cal7 (And.intro @cal8 (And.intro @cal9 (And.intro @rL (And.intro @qw (And.intro @sC (And.intro @sx (And.intro @sn (And.intro @ow (And.intro @rV (And.intro @qu (And.intro @uM (And.intro @sU (And.intro @tW (And.intro @sD (And.intro @tD (And.intro @s8 (And.intro @tv (And.intro @tQ (And.intro @tg (And.intro @s7 (And.intro @qh (And.intro @qf (@tj)))))))))))))))))))))))))))))))))))))))))))))))))))))))))))))))))))))))))))))))))))))))))))))))))))):=And.intro @ff (And.intro @jr (And.intro @jB (And.intro @eW (And.intro @kU (And.intro @gU (And.intro @gm (And.intro @j9 (And.intro @gx (And.intro @iP (And.intro @ix (And.intro @VN (And.intro @V0 (And.intro @T2 (And.intro @TS (And.intro @ke (And.intro @dg (And.intro @iY (And.intro @UL (And.intro @TQ (And.intro @WH (And.intro @S9 (And.intro @iy (And.intro @jv (And.intro @d9 (And.intro @fg (And.intro @d8 (And.intro @gh (And.intro @Vv (And.intro @eZ (And.intro @kC (And.intro @di (And.intro @UJ (And.intro @lH (And.intro @mE (And.intro @gw (And.intro @lh (And.intro @d4 (And.intro @lg (And.intro @lC (And.intro @kP (And.intro @gD (And.intro @db (And.intro @eH (And.intro @Uo (And.intro @U5 (And.intro @Vh (And.intro @VP (And.intro @VX (And.intro @Tf (And.intro @VA (And.intro @UB (And.intro @TF (And.intro @T4 (And.intro @RJ (And.intro @jc (And.intro @jl (And.intro @jR (And.intro @WX (And.intro @UA (And.intro @S3 (And.intro @WU (And.intro @Vi (And.intro @Tl (And.intro @U6 (And.intro @WM (And.intro @S6 (And.intro @TN (And.intro @P0 (And.intro @fD (And.intro @iS (And.intro @cal2 (And.intro @cal3 (And.intro @cal4 (And.intro @cal5 (And.intro @cal6 (And.intro @cal7 (And.intro @cal8 (And.intro @cal9 (And.intro @rL (And.intro @qw (And.intro @sC (And.intro @sx (And.intro @sn (And.intro @ow (And.intro @rV (And.intro @qu (And.intro @uM (And.intro @sU (And.intro @tW (And.intro @sD (And.intro @tD (And.intro @s8 (And.intro @tv (And.intro @tQ (And.intro @tg (And.intro @s7 (And.intro @qh (And.intro @qf (@tj)))))))))))))))))))))))))))))))))))))))))))))))))))))))))))))))))))))))))))))))))))))))))))))))))))
theorem tyS4:type_of% (And.intro @rh (And.intro @pC (And.intro @sE (And.intro @qz (And.intro @tZ (And.intro @qH (And.intro @pG (And.intro @tn (And.intro @pw (And.intro @qn (And.intro @uG (And.intro @qU (And.intro @uR (And.intro @t7 (And.intro @tm (And.intro @sh (And.intro @ry (And.intro @t8 (And.intro @pH (And.intro @qW (And.intro @tq (And.intro @sj (And.intro @rD (And.intro @rf (And.intro @qm (And.intro @qc (And.intro @rR (And.intro @rS (And.intro @qJ (And.intro @sX (And.intro @pS (And.intro @tH (And.intro @sH (And.intro @qL (And.intro @rb (And.intro @uX (And.intro @rk (And.intro @sr (And.intro @oe (And.intro @pD (And.intro @rE (And.intro @uS (And.intro @pz (And.intro @rg (And.intro @uA (And.intro @ph (And.intro @r8 (And.intro @tk (And.intro @pf (And.intro @ot (And.intro @tA (And.intro @px (And.intro @qq (And.intro @qG (And.intro @pJ (And.intro @tE (And.intro @tY (And.intro @oq (And.intro @o0 (And.intro @rQ (And.intro @uL (And.intro @sO (And.intro @pZ (And.intro @rA (And.intro @uT (And.intro @sV (And.intro @rX (And.intro @rW (And.intro @dm (And.intro @iu (And.intro @gR (And.intro @gP (And.intro @fF (And.intro @lT (And.intro @fo (And.intro @fu (And.intro @kf (And.intro @eG (And.intro @dh (And.intro @lM (And.intro @gc (And.intro @fP (And.intro @iq (And.intro @dj (And.intro @j8 (And.intro @dk (And.intro @ip (And.intro @kK (And.intro @kY (And.intro @iL (And.intro @lW (And.intro @eo (And.intro @mG (And.intro @eY (And.intro @eO (And.intro @fX (And.intro @ja (And.intro @lA (And.intro @gj (@lL)))))))))))))))))))))))))))))))))))))))))))))))))))))))))))))))))))))))))))))))))))))))))))))))))))):=And.intro @rh (And.intro @pC (And.intro @sE (And.intro @qz (And.intro @tZ (And.intro @qH (And.intro @pG (And.intro @tn (And.intro @pw (And.intro @qn (And.intro @uG (And.intro @qU (And.intro @uR (And.intro @t7 (And.intro @tm (And.intro @sh (And.intro @ry (And.intro @t8 (And.intro @pH (And.intro @qW (And.intro @tq (And.intro @sj (And.intro @rD (And.intro @rf (And.intro @qm (And.intro @qc (And.intro @rR (And.intro @rS (And.intro @qJ (And.intro @sX (And.intro @pS (And.intro @tH (And.intro @sH (And.intro @qL (And.intro @rb (And.intro @uX (And.intro @rk (And.intro @sr (And.intro @oe (And.intro @pD (And.intro @rE (And.intro @uS (And.intro @pz (And.intro @rg (And.intro @uA (And.intro @ph (And.intro @r8 (And.intro @tk (And.intro @pf (And.intro @ot (And.intro @tA (And.intro @px (And.intro @qq (And.intro @qG (And.intro @pJ (And.intro @tE (And.intro @tY (And.intro @oq (And.intro @o0 (And.intro @rQ (And.intro @uL (And.intro @sO (And.intro @pZ (And.intro @rA (And.intro @uT (And.intro @sV (And.intro @rX (And.intro @rW (And.intro @dm (And.intro @iu (And.intro @gR (And.intro @gP (And.intro @fF (And.intro @lT (And.intro @fo (And.intro @fu (And.intro @kf (And.intro @eG (And.intro @dh (And.intro @lM (And.intro @gc (And.intro @fP (And.intro @iq (And.intro @dj (And.intro @j8 (And.intro @dk (And.intro @ip (And.intro @kK (And.intro @kY (And.intro @iL (And.intro @lW (And.intro @eo (And.intro @mG (And.intro @eY (And.intro @eO (And.intro @fX (And.intro @ja (And.intro @lA (And.intro @gj (@lL)))))))))))))))))))))))))))))))))))))))))))))))))))))))))))))))))))))))))))))))))))))))))))))))))))
theorem tyS5:type_of% (And.intro @fY (And.intro @iE (And.intro @kg (And.intro @dx (And.intro @jz (And.intro @kO (And.intro @k8 (And.intro @fz (And.intro @eR (And.intro @jZ (And.intro @dU (And.intro @lu (And.intro @kR (And.intro @lN (And.intro @jT (And.intro @gy (And.intro @kM (And.intro @lr (And.intro @lO (And.intro @i6 (And.intro @dZ (And.intro @eC (And.intro @fS (And.intro @lV (And.intro @jq (And.intro @lb (And.intro @eQ (And.intro @eg (And.intro @kE (And.intro @dT (And.intro @lG (And.intro @jx (And.intro @ir (And.intro @kq (And.intro @gQ (And.intro @eV (And.intro @df (And.intro @mK (And.intro @fd (And.intro @cal0 (And.intro @cal1 (And.intro @ou (And.intro @d5 (And.intro @f8 (And.intro @dJ (And.intro @kN (And.intro @jE (And.intro @jU (And.intro @eN (And.intro @kZ (And.intro @eJ (And.intro @jb (And.intro @kF (And.intro @dq (And.intro @eD (And.intro @iT (And.intro @lB (And.intro @lR (And.intro @kv (And.intro @eA (And.intro @eh (And.intro @gH (And.intro @kj (And.intro @lP (And.intro @iV (And.intro @ji (And.intro @ib (And.intro @kV (And.intro @Tryz.underlying2 (And.intro @Tryz.underlying3 (And.intro @Tryz.underlying4 (And.intro @Tryz.underlying5 (And.intro @Tryz.underlying6 (And.intro @Tryz.underlying7 (And.intro @Tryz.underlying8 (And.intro @Tryz.underlying9 (And.intro @Tryz.underlying10 (And.intro @Tryz.underlying11 (And.intro @Tryz.underlying12 (And.intro @Tryz.underlying13 (And.intro @Tryz.underlying14 (And.intro @Tryz.underlying15 (And.intro @Tryz.underlying16 (And.intro @Tryz.underlying17 (And.intro @Tryz.underlying18 (And.intro @Tryz.underlying19 (And.intro @Tryz.underlying21 (And.intro @Tryz.underlying23 (And.intro @Tryz.underlying24 (And.intro @Tryz.underlying34 (And.intro @Tryz.underlying35 (And.intro @Tryz.underlying36 (And.intro @Tryz.underlying37 (And.intro @Tryz.underlying38 (And.intro @Tryz.underlying40 (And.intro @Tryz.underlying41 (And.intro @Tryz.underlying44 (And.intro @Tryz.underlying47 (And.intro @Tryz.underlying48 (@Tryz.underlying49)))))))))))))))))))))))))))))))))))))))))))))))))))))))))))))))))))))))))))))))))))))))))))))))))))):=And.intro @fY (And.intro @iE (And.intro @kg (And.intro @dx (And.intro @jz (And.intro @kO (And.intro @k8 (And.intro @fz (And.intro @eR (And.intro @jZ (And.intro @dU (And.intro @lu (And.intro @kR (And.intro @lN (And.intro @jT (And.intro @gy (And.intro @kM (And.intro @lr (And.intro @lO (And.intro @i6 (And.intro @dZ (And.intro @eC (And.intro @fS (And.intro @lV (And.intro @jq (And.intro @lb (And.intro @eQ (And.intro @eg (And.intro @kE (And.intro @dT (And.intro @lG (And.intro @jx (And.intro @ir (And.intro @kq (And.intro @gQ (And.intro @eV (And.intro @df (And.intro @mK (And.intro @fd (And.intro @cal0 (And.intro @cal1 (And.intro @ou (And.intro @d5 (And.intro @f8 (And.intro @dJ (And.intro @kN (And.intro @jE (And.intro @jU (And.intro @eN (And.intro @kZ (And.intro @eJ (And.intro @jb (And.intro @kF (And.intro @dq (And.intro @eD (And.intro @iT (And.intro @lB (And.intro @lR (And.intro @kv (And.intro @eA (And.intro @eh (And.intro @gH (And.intro @kj (And.intro @lP (And.intro @iV (And.intro @ji (And.intro @ib (And.intro @kV (And.intro @Tryz.underlying2 (And.intro @Tryz.underlying3 (And.intro @Tryz.underlying4 (And.intro @Tryz.underlying5 (And.intro @Tryz.underlying6 (And.intro @Tryz.underlying7 (And.intro @Tryz.underlying8 (And.intro @Tryz.underlying9 (And.intro @Tryz.underlying10 (And.intro @Tryz.underlying11 (And.intro @Tryz.underlying12 (And.intro @Tryz.underlying13 (And.intro @Tryz.underlying14 (And.intro @Tryz.underlying15 (And.intro @Tryz.underlying16 (And.intro @Tryz.underlying17 (And.intro @Tryz.underlying18 (And.intro @Tryz.underlying19 (And.intro @Tryz.underlying21 (And.intro @Tryz.underlying23 (And.intro @Tryz.underlying24 (And.intro @Tryz.underlying34 (And.intro @Tryz.underlying35 (And.intro @Tryz.underlying36 (And.intro @Tryz.underlying37 (And.intro @Tryz.underlying38 (And.intro @Tryz.underlying40 (And.intro @Tryz.underlying41 (And.intro @Tryz.underlying44 (And.intro @Tryz.underlying47 (And.intro @Tryz.underlying48 (@Tryz.underlying49)))))))))))))))))))))))))))))))))))))))))))))))))))))))))))))))))))))))))))))))))))))))))))))))))))
theorem tyS6:type_of% (And.intro @Tryz.underlying50 (And.intro @Tryz.underlying51 (And.intro @Tryz.underlying53 (And.intro @Tryz.underlying54 (And.intro @Tryz.underlying55 (And.intro @Tryz.underlying64 (And.intro @Tryz.underlying65 (And.intro @Tryz.underlying66 (And.intro @Tryz.underlying67 (And.intro @Tryz.underlying68 (And.intro @Tryz.underlying94 (And.intro @Tryz.underlying95 (And.intro @Tryz.underlying97 (And.intro @Tryz.underlying99 (And.intro @Tryz.underlying108 (And.intro @Tryz.underlying109 (And.intro @Tryz.underlying110 (And.intro @Tryz.underlying112 (And.intro @Tryz.underlying119 (And.intro @Tryz.underlying124 (And.intro @Tryz.underlying125 (And.intro @Tryz.underlying130 (And.intro @Tryz.underlying132 (And.intro @Tryz.underlying135 (And.intro @Tryz.underlying136 (And.intro @Tryz.underlying137 (And.intro @Tryz.underlying138 (And.intro @Tryz.underlying141 (And.intro @Tryz.underlying142 (And.intro @Tryz.underlying143 (And.intro @Tryz.underlying149 (And.intro @Tryz.underlying150 (And.intro @Tryz.underlying154 (And.intro @Tryz.underlying155 (And.intro @Tryz.underlying159 (And.intro @Tryz.underlying160 (And.intro @Tryz.underlying161 (And.intro @Tryz.underlying162 (And.intro @Tryz.underlying163 (And.intro @Tryz.underlying164 (And.intro @Tryz.underlying165 (And.intro @Tryz.underlying167 (And.intro @Tryz.underlying168 (And.intro @Tryz.underlying169 (And.intro @Tryz.underlying170 (And.intro @Tryz.results2 (And.intro @Tryz.results3 (And.intro @Tryz.results4 (And.intro @Tryz.results5 (And.intro @Tryz.results6 (And.intro @Tryz.results7 (And.intro @Tryz.results8 (And.intro @Tryz.results9 (And.intro @Tryz.results10 (And.intro @Tryz.results11 (And.intro @Tryz.results12 (And.intro @Tryz.results13 (And.intro @Tryz.results14 (And.intro @Tryz.results15 (And.intro @Tryz.results16 (And.intro @Tryz.results17 (And.intro @Tryz.results18 (And.intro @Tryz.results19 (And.intro @Tryz.results20 (And.intro @Tryz.results21 (And.intro @Tryz.results22 (And.intro @Tryz.results23 (And.intro @Tryz.results24 (And.intro @Tryz.results25 (And.intro @Tryz.results26 (And.intro @Tryz.results27 (And.intro @Tryz.results28 (And.intro @Tryz.results29 (And.intro @Tryz.results30 (And.intro @Tryz.results31 (And.intro @Tryz.results32 (And.intro @Tryz.results33 (And.intro @Tryz.results34 (And.intro @Tryz.results35 (And.intro @Tryz.results36 (And.intro @Tryz.results37 (And.intro @Tryz.results38 (And.intro @Tryz.results39 (And.intro @Tryz.results40 (And.intro @Tryz.results41 (And.intro @Tryz.results42 (And.intro @Tryz.results43 (And.intro @Tryz.results44 (And.intro @Tryz.results45 (And.intro @Tryz.results46 (And.intro @Tryz.results47 (And.intro @Tryz.results48 (And.intro @Tryz.results49 (And.intro @Tryz.results50 (And.intro @Tryz.results51 (And.intro @Tryz.results52 (And.intro @Tryz.results53 (And.intro @Tryz.results54 (And.intro @Tryz.results55 (@Tryz.results56)))))))))))))))))))))))))))))))))))))))))))))))))))))))))))))))))))))))))))))))))))))))))))))))))))):=And.intro @Tryz.underlying50 (And.intro @Tryz.underlying51 (And.intro @Tryz.underlying53 (And.intro @Tryz.underlying54 (And.intro @Tryz.underlying55 (And.intro @Tryz.underlying64 (And.intro @Tryz.underlying65 (And.intro @Tryz.underlying66 (And.intro @Tryz.underlying67 (And.intro @Tryz.underlying68 (And.intro @Tryz.underlying94 (And.intro @Tryz.underlying95 (And.intro @Tryz.underlying97 (And.intro @Tryz.underlying99 (And.intro @Tryz.underlying108 (And.intro @Tryz.underlying109 (And.intro @Tryz.underlying110 (And.intro @Tryz.underlying112 (And.intro @Tryz.underlying119 (And.intro @Tryz.underlying124 (And.intro @Tryz.underlying125 (And.intro @Tryz.underlying130 (And.intro @Tryz.underlying132 (And.intro @Tryz.underlying135 (And.intro @Tryz.underlying136 (And.intro @Tryz.underlying137 (And.intro @Tryz.underlying138 (And.intro @Tryz.underlying141 (And.intro @Tryz.underlying142 (And.intro @Tryz.underlying143 (And.intro @Tryz.underlying149 (And.intro @Tryz.underlying150 (And.intro @Tryz.underlying154 (And.intro @Tryz.underlying155 (And.intro @Tryz.underlying159 (And.intro @Tryz.underlying160 (And.intro @Tryz.underlying161 (And.intro @Tryz.underlying162 (And.intro @Tryz.underlying163 (And.intro @Tryz.underlying164 (And.intro @Tryz.underlying165 (And.intro @Tryz.underlying167 (And.intro @Tryz.underlying168 (And.intro @Tryz.underlying169 (And.intro @Tryz.underlying170 (And.intro @Tryz.results2 (And.intro @Tryz.results3 (And.intro @Tryz.results4 (And.intro @Tryz.results5 (And.intro @Tryz.results6 (And.intro @Tryz.results7 (And.intro @Tryz.results8 (And.intro @Tryz.results9 (And.intro @Tryz.results10 (And.intro @Tryz.results11 (And.intro @Tryz.results12 (And.intro @Tryz.results13 (And.intro @Tryz.results14 (And.intro @Tryz.results15 (And.intro @Tryz.results16 (And.intro @Tryz.results17 (And.intro @Tryz.results18 (And.intro @Tryz.results19 (And.intro @Tryz.results20 (And.intro @Tryz.results21 (And.intro @Tryz.results22 (And.intro @Tryz.results23 (And.intro @Tryz.results24 (And.intro @Tryz.results25 (And.intro @Tryz.results26 (And.intro @Tryz.results27 (And.intro @Tryz.results28 (And.intro @Tryz.results29 (And.intro @Tryz.results30 (And.intro @Tryz.results31 (And.intro @Tryz.results32 (And.intro @Tryz.results33 (And.intro @Tryz.results34 (And.intro @Tryz.results35 (And.intro @Tryz.results36 (And.intro @Tryz.results37 (And.intro @Tryz.results38 (And.intro @Tryz.results39 (And.intro @Tryz.results40 (And.intro @Tryz.results41 (And.intro @Tryz.results42 (And.intro @Tryz.results43 (And.intro @Tryz.results44 (And.intro @Tryz.results45 (And.intro @Tryz.results46 (And.intro @Tryz.results47 (And.intro @Tryz.results48 (And.intro @Tryz.results49 (And.intro @Tryz.results50 (And.intro @Tryz.results51 (And.intro @Tryz.results52 (And.intro @Tryz.results53 (And.intro @Tryz.results54 (And.intro @Tryz.results55 (@Tryz.results56)))))))))))))))))))))))))))))))))))))))))))))))))))))))))))))))))))))))))))))))))))))))))))))))))))
theorem tyS7:type_of% (And.intro @Tryz.results57 (And.intro @Tryz.results58 (And.intro @Tryz.results59 (And.intro @Tryz.results60 (And.intro @Tryz.results61 (And.intro @Tryz.results62 (And.intro @Tryz.results63 (And.intro @Tryz.results64 (And.intro @Tryz.results65 (And.intro @Tryz.results66 (And.intro @Tryz.results67 (And.intro @Tryz.results68 (And.intro @Tryz.results69 (And.intro @Tryz.results70 (And.intro @Tryz.results71 (And.intro @Tryz.results72 (And.intro @Tryz.results73 (And.intro @Tryz.results74 (And.intro @Tryz.results75 (And.intro @Tryz.results76 (And.intro @Tryz.results77 (And.intro @Tryz.results78 (And.intro @Tryz.results79 (And.intro @Tryz.results80 (And.intro @Tryz.results81 (And.intro @Tryz.results82 (And.intro @Tryz.results83 (And.intro @Tryz.results84 (And.intro @Tryz.results85 (And.intro @Tryz.results86 (And.intro @Tryz.results87 (And.intro @Tryz.results88 (And.intro @Tryz.results89 (And.intro @Tryz.results90 (And.intro @Tryz.results91 (And.intro @Tryz.results92 (And.intro @Tryz.results93 (And.intro @Tryz.results94 (And.intro @Tryz.results95 (And.intro @Tryz.results97 (And.intro @Tryz.results98 (And.intro @Tryz.results99 (And.intro @Tryz.results100 (And.intro @Tryz.results101 (And.intro @Tryz.results102 (And.intro @Tryz.results103 (And.intro @Tryz.results104 (And.intro @Tryz.results105 (And.intro @Tryz.results106 (And.intro @Tryz.results107 (And.intro @Tryz.results108 (And.intro @Tryz.results109 (And.intro @Tryz.results110 (And.intro @Tryz.results111 (And.intro @Tryz.results112 (And.intro @Tryz.results113 (And.intro @Tryz.results114 (And.intro @Tryz.results115 (And.intro @Tryz.results116 (And.intro @Tryz.results117 (And.intro @Tryz.results118 (And.intro @Tryz.results119 (And.intro @Tryz.results120 (And.intro @Tryz.results121 (And.intro @Tryz.results122 (And.intro @Tryz.results123 (And.intro @Tryz.results125 (And.intro @Tryz.results126 (And.intro @Tryz.results128 (And.intro @Tryz.results129 (And.intro @Tryz.results130 (And.intro @Tryz.results131 (And.intro @Tryz.results132 (And.intro @Tryz.results133 (And.intro @Tryz.results134 (And.intro @Tryz.results135 (And.intro @Tryz.results136 (And.intro @Tryz.results137 (And.intro @Tryz.results138 (And.intro @Tryz.results139 (And.intro @Tryz.results140 (And.intro @Tryz.results141 (And.intro @Tryz.results142 (And.intro @Tryz.results143 (And.intro @Tryz.results144 (And.intro @Tryz.results145 (And.intro @Tryz.results146 (And.intro @Tryz.results147 (And.intro @Tryz.results148 (And.intro @Tryz.results149 (And.intro @Tryz.results150 (And.intro @Tryz.results151 (And.intro @Tryz.results152 (And.intro @Tryz.results153 (And.intro @Tryz.results154 (And.intro @Tryz.results155 (And.intro @Tryz.results156 (And.intro @Tryz.results157 (And.intro @Tryz.results158 (@Tryz.results159)))))))))))))))))))))))))))))))))))))))))))))))))))))))))))))))))))))))))))))))))))))))))))))))))))):=And.intro @Tryz.results57 (And.intro @Tryz.results58 (And.intro @Tryz.results59 (And.intro @Tryz.results60 (And.intro @Tryz.results61 (And.intro @Tryz.results62 (And.intro @Tryz.results63 (And.intro @Tryz.results64 (And.intro @Tryz.results65 (And.intro @Tryz.results66 (And.intro @Tryz.results67 (And.intro @Tryz.results68 (And.intro @Tryz.results69 (And.intro @Tryz.results70 (And.intro @Tryz.results71 (And.intro @Tryz.results72 (And.intro @Tryz.results73 (And.intro @Tryz.results74 (And.intro @Tryz.results75 (And.intro @Tryz.results76 (And.intro @Tryz.results77 (And.intro @Tryz.results78 (And.intro @Tryz.results79 (And.intro @Tryz.results80 (And.intro @Tryz.results81 (And.intro @Tryz.results82 (And.intro @Tryz.results83 (And.intro @Tryz.results84 (And.intro @Tryz.results85 (And.intro @Tryz.results86 (And.intro @Tryz.results87 (And.intro @Tryz.results88 (And.intro @Tryz.results89 (And.intro @Tryz.results90 (And.intro @Tryz.results91 (And.intro @Tryz.results92 (And.intro @Tryz.results93 (And.intro @Tryz.results94 (And.intro @Tryz.results95 (And.intro @Tryz.results97 (And.intro @Tryz.results98 (And.intro @Tryz.results99 (And.intro @Tryz.results100 (And.intro @Tryz.results101 (And.intro @Tryz.results102 (And.intro @Tryz.results103 (And.intro @Tryz.results104 (And.intro @Tryz.results105 (And.intro @Tryz.results106 (And.intro @Tryz.results107 (And.intro @Tryz.results108 (And.intro @Tryz.results109 (And.intro @Tryz.results110 (And.intro @Tryz.results111 (And.intro @Tryz.results112 (And.intro @Tryz.results113 (And.intro @Tryz.results114 (And.intro @Tryz.results115 (And.intro @Tryz.results116 (And.intro @Tryz.results117 (And.intro @Tryz.results118 (And.intro @Tryz.results119 (And.intro @Tryz.results120 (And.intro @Tryz.results121 (And.intro @Tryz.results122 (And.intro @Tryz.results123 (And.intro @Tryz.results125 (And.intro @Tryz.results126 (And.intro @Tryz.results128 (And.intro @Tryz.results129 (And.intro @Tryz.results130 (And.intro @Tryz.results131 (And.intro @Tryz.results132 (And.intro @Tryz.results133 (And.intro @Tryz.results134 (And.intro @Tryz.results135 (And.intro @Tryz.results136 (And.intro @Tryz.results137 (And.intro @Tryz.results138 (And.intro @Tryz.results139 (And.intro @Tryz.results140 (And.intro @Tryz.results141 (And.intro @Tryz.results142 (And.intro @Tryz.results143 (And.intro @Tryz.results144 (And.intro @Tryz.results145 (And.intro @Tryz.results146 (And.intro @Tryz.results147 (And.intro @Tryz.results148 (And.intro @Tryz.results149 (And.intro @Tryz.results150 (And.intro @Tryz.results151 (And.intro @Tryz.results152 (And.intro @Tryz.results153 (And.intro @Tryz.results154 (And.intro @Tryz.results155 (And.intro @Tryz.results156 (And.intro @Tryz.results157 (And.intro @Tryz.results158 (@Tryz.results159)))))))))))))))))))))))))))))))))))))))))))))))))))))))))))))))))))))))))))))))))))))))))))))))))))
theorem tyS8:type_of% (And.intro @Tryz.results160 (And.intro @Tryz.results161 (And.intro @Tryz.results162 (And.intro @Tryz.results163 (And.intro @Tryz.results164 (And.intro @Tryz.results165 (And.intro @Tryz.results166 (And.intro @Tryz.results167 (And.intro @Tryz.results168 (And.intro @Tryz.results169 (And.intro @Tryz.results170 (And.intro @Tryz.results171 (@Tryz.results196))))))))))))):=And.intro @Tryz.results160 (And.intro @Tryz.results161 (And.intro @Tryz.results162 (And.intro @Tryz.results163 (And.intro @Tryz.results164 (And.intro @Tryz.results165 (And.intro @Tryz.results166 (And.intro @Tryz.results167 (And.intro @Tryz.results168 (And.intro @Tryz.results169 (And.intro @Tryz.results170 (And.intro @Tryz.results171 (@Tryz.results196))))))))))))
theorem tyS:type_of% (And.intro @tyS0 (And.intro @tyS1 (And.intro @tyS2 (And.intro @tyS3 (And.intro @tyS4 (And.intro @tyS5 (And.intro @tyS6 (And.intro @tyS7 (@tyS8))))))))):=And.intro @tyS0 (And.intro @tyS1 (And.intro @tyS2 (And.intro @tyS3 (And.intro @tyS4 (And.intro @tyS5 (And.intro @tyS6 (And.intro @tyS7 (@tyS8))))))))
end Go.Proofs.YtfphceknmgadgaaGreatDoor
