/-
Closed facts on the types and functions of this translation.
Conditions: none.
-/
import Derived.Test.YtfphceknmgadgaaGreatDoorProg
import Derived.Test.YtfphceknmgadgaaGreatDoorVmEq
import Derived.KernelRfl
set_option linter.unusedSimpArgs false
set_option linter.unusedVariables false
namespace Go.Proofs.YtfphceknmgadgaaGreatDoor
open Go.Vm
set_option maxRecDepth 100000
theorem qf:Cw Tryz.prog 2=some (false,1):=by kernel_rfl
theorem oW:DD Tryz.prog 2=some (.int .i64 0):=by kernel_rfl
theorem oZ:Cw Tryz.prog 3=some (false,1):=by kernel_rfl
theorem oV:DD Tryz.prog 3=some (.int .i64 0):=by kernel_rfl
theorem pQ:Cw Tryz.prog 4=some (false,1):=by kernel_rfl
theorem oN:DD Tryz.prog 4=some (.bool false):=by kernel_rfl
theorem oO:Cw Tryz.prog 5=some (false,1):=by kernel_rfl
theorem pf:DD Tryz.prog 5=some (.int .u8 0):=by kernel_rfl
theorem pM:Cw Tryz.prog 6=some (false,1):=by kernel_rfl
theorem qc:DD Tryz.prog 6=some (.int .u8 0):=by kernel_rfl
theorem ow:Cw Tryz.prog 7=some (true,4):=by kernel_rfl
theorem cW:Cd Tryz.prog 7 0=some (0,false,1):=by kernel_rfl
theorem YK:Cd Tryz.prog 7 1=some (1,false,1):=by kernel_rfl
theorem YF:Cd Tryz.prog 7 2=some (2,false,1):=by kernel_rfl
theorem aV:Cd Tryz.prog 7 3=some (3,false,1):=by kernel_rfl
theorem o9:CY Tryz.prog 7=true:=by kernel_rfl
theorem oR:DD Tryz.prog 7=some (.agg #[.int .i64 0,.int .i64 0,.bool false,.int .u8 0]):=by kernel_rfl
theorem pG:Cw Tryz.prog 8=some (true,4):=by kernel_rfl
theorem di:Cd Tryz.prog 8 0=some (0,false,1):=by kernel_rfl
theorem aK:Cd Tryz.prog 8 1=some (1,false,1):=by kernel_rfl
theorem dc:Cd Tryz.prog 8 2=some (2,false,1):=by kernel_rfl
theorem aG:Cd Tryz.prog 8 3=some (3,false,1):=by kernel_rfl
theorem qF:CY Tryz.prog 8=true:=by kernel_rfl
theorem pg:DD Tryz.prog 8=some (.agg #[.int .i64 0,.int .i64 0,.bool false,.int .u8 0]):=by kernel_rfl
theorem pz:Cw Tryz.prog 9=some (false,1):=by kernel_rfl
theorem ph:DD Tryz.prog 9=some (.string ⟨#[]⟩):=by kernel_rfl
theorem lT:Cw Tryz.prog 10=some (false,1):=by kernel_rfl
theorem lX:DD Tryz.prog 10=some (.string ⟨#[]⟩):=by kernel_rfl
theorem ln:Cw Tryz.prog 11=some (false,1):=by kernel_rfl
theorem iH:DD Tryz.prog 11=some (.string ⟨#[]⟩):=by kernel_rfl
theorem mA:Cw Tryz.prog 12=some (false,1):=by kernel_rfl
theorem gD:DD Tryz.prog 12=some (.int .u64 0):=by kernel_rfl
theorem ip:Cw Tryz.prog 13=some (true,2):=by kernel_rfl
theorem Wh:Cd Tryz.prog 13 0=some (0,false,1):=by kernel_rfl
theorem U5:Cd Tryz.prog 13 1=some (1,false,1):=by kernel_rfl
theorem mE:CY Tryz.prog 13=true:=by kernel_rfl
theorem mC:DD Tryz.prog 13=some (.agg #[.string ⟨#[]⟩,.int .u64 0]):=by kernel_rfl
theorem ld:Cw Tryz.prog 14=some (true,2):=by kernel_rfl
theorem Um:Cd Tryz.prog 14 0=some (0,false,1):=by kernel_rfl
theorem VQ:Cd Tryz.prog 14 1=some (1,false,1):=by kernel_rfl
theorem ly:CY Tryz.prog 14=true:=by kernel_rfl
theorem iG:DD Tryz.prog 14=some (.agg #[.string ⟨#[]⟩,.int .u64 0]):=by kernel_rfl
theorem gx:Cw Tryz.prog 15=some (false,1):=by kernel_rfl
theorem gr:DD Tryz.prog 15=some (.pointer none):=by kernel_rfl
theorem kO:Cw Tryz.prog 16=some (false,1):=by kernel_rfl
theorem iN:DD Tryz.prog 16=some (.pointer none):=by kernel_rfl
theorem ig:Cw Tryz.prog 17=some (false,1):=by kernel_rfl
theorem kF:DD Tryz.prog 17=some (.pointer none):=by kernel_rfl
theorem gN:Cw Tryz.prog 18=some (true,1):=by kernel_rfl
theorem W3:Cd Tryz.prog 18 0=some (0,false,1):=by kernel_rfl
theorem jM:CY Tryz.prog 18=true:=by kernel_rfl
theorem ir:DD Tryz.prog 18=some (.agg #[.pointer none]):=by kernel_rfl
theorem js:Cw Tryz.prog 19=some (true,1):=by kernel_rfl
theorem XF:Cd Tryz.prog 19 0=some (0,false,1):=by kernel_rfl
theorem ib:CY Tryz.prog 19=true:=by kernel_rfl
theorem la:DD Tryz.prog 19=some (.agg #[.pointer none]):=by kernel_rfl
theorem jV:Cw Tryz.prog 20=some (false,1):=by kernel_rfl
theorem mD:DD Tryz.prog 20=some (.nilIface):=by kernel_rfl
theorem iO:Cw Tryz.prog 21=some (false,1):=by kernel_rfl
theorem mQ:DD Tryz.prog 21=some (.int .i32 0):=by kernel_rfl
theorem kC:Cw Tryz.prog 23=some (false,1):=by kernel_rfl
theorem ij:DD Tryz.prog 23=some (.slice none 0 0):=by kernel_rfl
theorem WK:O5 Tryz.prog 23=some (38,10,120):=by kernel_rfl
theorem mL:Cw Tryz.prog 24=some (false,1):=by kernel_rfl
theorem iE:DD Tryz.prog 24=some (.int .i64 0):=by kernel_rfl
theorem ks:Cw Tryz.prog 34=some (false,1):=by kernel_rfl
theorem lP:DD Tryz.prog 34=some (.slice none 0 0):=by kernel_rfl
theorem RL:O5 Tryz.prog 34=some (36,5,72):=by kernel_rfl
theorem iA:Cw Tryz.prog 35=some (true,5):=by kernel_rfl
theorem Vo:Cd Tryz.prog 35 0=some (0,false,1):=by kernel_rfl
theorem Ux:Cd Tryz.prog 35 1=some (1,false,1):=by kernel_rfl
theorem VS:Cd Tryz.prog 35 2=some (2,false,1):=by kernel_rfl
theorem WD:Cd Tryz.prog 35 3=some (3,false,1):=by kernel_rfl
theorem Wp:Cd Tryz.prog 35 4=some (4,false,1):=by kernel_rfl
theorem jH:CY Tryz.prog 35=true:=by kernel_rfl
theorem gL:Tryz.prog.stoodInHeld 35=false:=by kernel_rfl
theorem gW:Tryz.prog.eqGuardType Tryz.prog.depth 35=false:=by kernel_rfl
theorem iy:DD Tryz.prog 35=some (.agg #[.int .i64 0,.string ⟨#[]⟩,.string ⟨#[]⟩,.int .i64 0,.slice none 0 0]):=by kernel_rfl
theorem kH:Cw Tryz.prog 36=some (true,5):=by kernel_rfl
theorem V7:Cd Tryz.prog 36 0=some (0,false,1):=by kernel_rfl
theorem V6:Cd Tryz.prog 36 1=some (1,false,1):=by kernel_rfl
theorem US:Cd Tryz.prog 36 2=some (2,false,1):=by kernel_rfl
theorem V0:Cd Tryz.prog 36 3=some (3,false,1):=by kernel_rfl
theorem WQ:Cd Tryz.prog 36 4=some (4,false,1):=by kernel_rfl
theorem kR:CY Tryz.prog 36=true:=by kernel_rfl
theorem gf:Tryz.prog.stoodInHeld 36=false:=by kernel_rfl
theorem ko:Tryz.prog.eqGuardType Tryz.prog.depth 36=false:=by kernel_rfl
theorem QL:DD Tryz.prog 36=some (.agg #[.int .i64 0,.string ⟨#[]⟩,.string ⟨#[]⟩,.int .i64 0,.slice none 0 0]):=by kernel_rfl
theorem lb:Cw Tryz.prog 37=some (true,10):=by kernel_rfl
theorem VW:Cd Tryz.prog 37 0=some (0,false,1):=by kernel_rfl
theorem V1:Cd Tryz.prog 37 1=some (1,true,5):=by kernel_rfl
theorem XC:Cd Tryz.prog 37 2=some (6,false,1):=by kernel_rfl
theorem VM:Cd Tryz.prog 37 3=some (7,false,1):=by kernel_rfl
theorem UC:Cd Tryz.prog 37 4=some (8,false,1):=by kernel_rfl
theorem WL:Cd Tryz.prog 37 5=some (9,false,1):=by kernel_rfl
theorem jX:CY Tryz.prog 37=true:=by kernel_rfl
theorem kU:Tryz.prog.stoodInHeld 37=false:=by kernel_rfl
theorem kX:Tryz.prog.eqGuardType Tryz.prog.depth 37=false:=by kernel_rfl
theorem gT:DD Tryz.prog 37=some (.agg #[.string ⟨#[]⟩,.int .i64 0,.string ⟨#[]⟩,.string ⟨#[]⟩,.int .i64 0,.slice none 0 0,.int .i64 0,.int .i64 0,.int .i64 0,.int .i64 0]):=by kernel_rfl
theorem mG:Cw Tryz.prog 38=some (true,10):=by kernel_rfl
theorem Vg:Cd Tryz.prog 38 0=some (0,false,1):=by kernel_rfl
theorem V4:Cd Tryz.prog 38 1=some (1,true,5):=by kernel_rfl
theorem Vv:Cd Tryz.prog 38 2=some (6,false,1):=by kernel_rfl
theorem V8:Cd Tryz.prog 38 3=some (7,false,1):=by kernel_rfl
theorem V5:Cd Tryz.prog 38 4=some (8,false,1):=by kernel_rfl
theorem Ub:Cd Tryz.prog 38 5=some (9,false,1):=by kernel_rfl
theorem jG:CY Tryz.prog 38=true:=by kernel_rfl
theorem lD:Tryz.prog.stoodInHeld 38=false:=by kernel_rfl
theorem kn:Tryz.prog.eqGuardType Tryz.prog.depth 38=false:=by kernel_rfl
theorem VX:DD Tryz.prog 38=some (.agg #[.string ⟨#[]⟩,.int .i64 0,.string ⟨#[]⟩,.string ⟨#[]⟩,.int .i64 0,.slice none 0 0,.int .i64 0,.int .i64 0,.int .i64 0,.int .i64 0]):=by kernel_rfl
theorem kV:Cw Tryz.prog 40=some (true,2):=by kernel_rfl
theorem Wq:Cd Tryz.prog 40 0=some (0,false,1):=by kernel_rfl
theorem Ut:Cd Tryz.prog 40 1=some (1,false,1):=by kernel_rfl
theorem ia:CY Tryz.prog 40=true:=by kernel_rfl
theorem iK:Tryz.prog.stoodInHeld 40=false:=by kernel_rfl
theorem iw:Tryz.prog.eqGuardType Tryz.prog.depth 40=false:=by kernel_rfl
theorem kS:DD Tryz.prog 40=some (.agg #[.int .i64 0,.int .i64 0]):=by kernel_rfl
theorem l9:Cw Tryz.prog 41=some (true,2):=by kernel_rfl
theorem WT:Cd Tryz.prog 41 0=some (0,false,1):=by kernel_rfl
theorem Vf:Cd Tryz.prog 41 1=some (1,false,1):=by kernel_rfl
theorem g9:CY Tryz.prog 41=true:=by kernel_rfl
theorem kT:Tryz.prog.stoodInHeld 41=false:=by kernel_rfl
theorem mN:Tryz.prog.eqGuardType Tryz.prog.depth 41=false:=by kernel_rfl
theorem jr:DD Tryz.prog 41=some (.agg #[.int .i64 0,.int .i64 0]):=by kernel_rfl
theorem kW:Cw Tryz.prog 44=some (false,1):=by kernel_rfl
theorem je:DD Tryz.prog 44=some (.slice none 0 0):=by kernel_rfl
theorem O8:O5 Tryz.prog 44=some (51,4,40):=by kernel_rfl
theorem jL:Cw Tryz.prog 47=some (false,1):=by kernel_rfl
theorem lA:DD Tryz.prog 47=some (.pointer none):=by kernel_rfl
theorem jO:Cw Tryz.prog 48=some (true,5):=by kernel_rfl
theorem VD:Cd Tryz.prog 48 0=some (0,false,1):=by kernel_rfl
theorem WX:Cd Tryz.prog 48 1=some (1,false,1):=by kernel_rfl
theorem WE:Cd Tryz.prog 48 2=some (2,false,1):=by kernel_rfl
theorem W6:Cd Tryz.prog 48 3=some (3,false,1):=by kernel_rfl
theorem UK:Cd Tryz.prog 48 4=some (4,false,1):=by kernel_rfl
theorem j9:CY Tryz.prog 48=true:=by kernel_rfl
theorem kE:Tryz.prog.stoodInHeld 48=false:=by kernel_rfl
theorem iL:Tryz.prog.eqGuardType Tryz.prog.depth 48=false:=by kernel_rfl
theorem lF:DD Tryz.prog 48=some (.agg #[.string ⟨#[]⟩,.string ⟨#[]⟩,.slice none 0 0,.int .i64 0,.slice none 0 0]):=by kernel_rfl
theorem iZ:Cw Tryz.prog 49=some (true,5):=by kernel_rfl
theorem UG:Cd Tryz.prog 49 0=some (0,false,1):=by kernel_rfl
theorem Up:Cd Tryz.prog 49 1=some (1,false,1):=by kernel_rfl
theorem VN:Cd Tryz.prog 49 2=some (2,false,1):=by kernel_rfl
theorem WY:Cd Tryz.prog 49 3=some (3,false,1):=by kernel_rfl
theorem Vu:Cd Tryz.prog 49 4=some (4,false,1):=by kernel_rfl
theorem gn:CY Tryz.prog 49=true:=by kernel_rfl
theorem hF:Tryz.prog.stoodInHeld 49=false:=by kernel_rfl
theorem ju:Tryz.prog.eqGuardType Tryz.prog.depth 49=false:=by kernel_rfl
theorem gR:DD Tryz.prog 49=some (.agg #[.string ⟨#[]⟩,.string ⟨#[]⟩,.slice none 0 0,.int .i64 0,.slice none 0 0]):=by kernel_rfl
theorem iD:Cw Tryz.prog 50=some (true,4):=by kernel_rfl
theorem Uh:Cd Tryz.prog 50 0=some (0,false,1):=by kernel_rfl
theorem VO:Cd Tryz.prog 50 1=some (1,false,1):=by kernel_rfl
theorem VC:Cd Tryz.prog 50 2=some (2,false,1):=by kernel_rfl
theorem XA:Cd Tryz.prog 50 3=some (3,false,1):=by kernel_rfl
theorem mP:CY Tryz.prog 50=true:=by kernel_rfl
theorem ku:Tryz.prog.stoodInHeld 50=false:=by kernel_rfl
theorem gQ:Tryz.prog.eqGuardType Tryz.prog.depth 50=false:=by kernel_rfl
theorem lY:DD Tryz.prog 50=some (.agg #[.int .i64 0,.string ⟨#[]⟩,.int .i64 0,.int .i64 0]):=by kernel_rfl
theorem jY:Cw Tryz.prog 51=some (true,4):=by kernel_rfl
theorem Ul:Cd Tryz.prog 51 0=some (0,false,1):=by kernel_rfl
theorem UY:Cd Tryz.prog 51 1=some (1,false,1):=by kernel_rfl
theorem Un:Cd Tryz.prog 51 2=some (2,false,1):=by kernel_rfl
theorem Wr:Cd Tryz.prog 51 3=some (3,false,1):=by kernel_rfl
theorem lM:CY Tryz.prog 51=true:=by kernel_rfl
theorem iJ:Tryz.prog.stoodInHeld 51=false:=by kernel_rfl
theorem lE:Tryz.prog.eqGuardType Tryz.prog.depth 51=false:=by kernel_rfl
theorem PA:DD Tryz.prog 51=some (.agg #[.int .i64 0,.string ⟨#[]⟩,.int .i64 0,.int .i64 0]):=by kernel_rfl
theorem jJ:Cw Tryz.prog 53=some (false,1):=by kernel_rfl
theorem ll:DD Tryz.prog 53=some (.pointer none):=by kernel_rfl
theorem ix:Cw Tryz.prog 54=some (true,5):=by kernel_rfl
theorem V9:Cd Tryz.prog 54 0=some (0,false,1):=by kernel_rfl
theorem XK:Cd Tryz.prog 54 1=some (1,false,1):=by kernel_rfl
theorem VG:Cd Tryz.prog 54 2=some (2,false,1):=by kernel_rfl
theorem UU:Cd Tryz.prog 54 3=some (3,false,1):=by kernel_rfl
theorem Uk:Cd Tryz.prog 54 4=some (4,false,1):=by kernel_rfl
theorem jh:CY Tryz.prog 54=true:=by kernel_rfl
theorem ka:Tryz.prog.stoodInHeld 54=false:=by kernel_rfl
theorem jx:Tryz.prog.eqGuardType Tryz.prog.depth 54=false:=by kernel_rfl
theorem g8:DD Tryz.prog 54=some (.agg #[.string ⟨#[]⟩,.string ⟨#[]⟩,.slice none 0 0,.int .i64 0,.int .i64 0]):=by kernel_rfl
theorem gP:Cw Tryz.prog 55=some (true,5):=by kernel_rfl
theorem UF:Cd Tryz.prog 55 0=some (0,false,1):=by kernel_rfl
theorem Vw:Cd Tryz.prog 55 1=some (1,false,1):=by kernel_rfl
theorem Ua:Cd Tryz.prog 55 2=some (2,false,1):=by kernel_rfl
theorem Wv:Cd Tryz.prog 55 3=some (3,false,1):=by kernel_rfl
theorem WB:Cd Tryz.prog 55 4=some (4,false,1):=by kernel_rfl
theorem lC:CY Tryz.prog 55=true:=by kernel_rfl
theorem gl:Tryz.prog.stoodInHeld 55=false:=by kernel_rfl
theorem lJ:Tryz.prog.eqGuardType Tryz.prog.depth 55=false:=by kernel_rfl
theorem kx:DD Tryz.prog 55=some (.agg #[.string ⟨#[]⟩,.string ⟨#[]⟩,.slice none 0 0,.int .i64 0,.int .i64 0]):=by kernel_rfl
theorem lN:Cw Tryz.prog 64=some (false,1):=by kernel_rfl
theorem kj:DD Tryz.prog 64=some (.pointer none):=by kernel_rfl
theorem l8:Cw Tryz.prog 65=some (false,1):=by kernel_rfl
theorem jP:DD Tryz.prog 65=some (.slice none 0 0):=by kernel_rfl
theorem iB:O5 Tryz.prog 65=some (5,1,1):=by kernel_rfl
theorem j5:Cw Tryz.prog 66=some (true,2):=by kernel_rfl
theorem WO:Cd Tryz.prog 66 0=some (0,false,1):=by kernel_rfl
theorem W5:Cd Tryz.prog 66 1=some (1,false,1):=by kernel_rfl
theorem kP:CY Tryz.prog 66=true:=by kernel_rfl
theorem gU:DD Tryz.prog 66=some (.agg #[.pointer none,.slice none 0 0]):=by kernel_rfl
theorem jA:Cw Tryz.prog 67=some (true,2):=by kernel_rfl
theorem Wy:Cd Tryz.prog 67 0=some (0,false,1):=by kernel_rfl
theorem Vq:Cd Tryz.prog 67 1=some (1,false,1):=by kernel_rfl
theorem jq:CY Tryz.prog 67=true:=by kernel_rfl
theorem kG:DD Tryz.prog 67=some (.agg #[.pointer none,.slice none 0 0]):=by kernel_rfl
theorem gO:Cw Tryz.prog 68=some (false,1):=by kernel_rfl
theorem jn:DD Tryz.prog 68=some (.map none):=by kernel_rfl
theorem jm:Cw Tryz.prog 70=some (false,1):=by kernel_rfl
theorem jF:DD Tryz.prog 70=some (.nilIface):=by kernel_rfl
theorem gH:Cw Tryz.prog 71=some (false,1):=by kernel_rfl
theorem jd:DD Tryz.prog 71=some (.nilIface):=by kernel_rfl
theorem i7:Cw Tryz.prog 94=some (true,2):=by kernel_rfl
theorem Ug:Cd Tryz.prog 94 0=some (0,false,1):=by kernel_rfl
theorem VR:Cd Tryz.prog 94 1=some (1,false,1):=by kernel_rfl
theorem jB:CY Tryz.prog 94=true:=by kernel_rfl
theorem gS:DD Tryz.prog 94=some (.agg #[.string ⟨#[]⟩,.int .i64 0]):=by kernel_rfl
theorem mH:Cw Tryz.prog 95=some (false,1):=by kernel_rfl
theorem kN:DD Tryz.prog 95=some (.slice none 0 0):=by kernel_rfl
theorem kJ:O5 Tryz.prog 95=some (94,2,24):=by kernel_rfl
theorem kf:Cw Tryz.prog 97=some (false,1):=by kernel_rfl
theorem lR:DD Tryz.prog 97=some (.pointer none):=by kernel_rfl
theorem kD:Cw Tryz.prog 99=some (false,1):=by kernel_rfl
theorem ga:DD Tryz.prog 99=some (.slice none 0 0):=by kernel_rfl
theorem iP:O5 Tryz.prog 99=some (9,1,16):=by kernel_rfl
theorem Zt:Cw Tryz.prog 108=some (false,1):=by kernel_rfl
theorem Y3:DD Tryz.prog 108=some (.pointer none):=by kernel_rfl
theorem Z4:Cw Tryz.prog 109=some (true,4):=by kernel_rfl
theorem SC:Cd Tryz.prog 109 0=some (0,false,1):=by kernel_rfl
theorem Rk:Cd Tryz.prog 109 1=some (1,false,1):=by kernel_rfl
theorem Ss:Cd Tryz.prog 109 2=some (2,false,1):=by kernel_rfl
theorem Sj:Cd Tryz.prog 109 3=some (3,false,1):=by kernel_rfl
theorem Zi:CY Tryz.prog 109=true:=by kernel_rfl
theorem d7:Tryz.prog.stoodInHeld 109=false:=by kernel_rfl
theorem eM:Tryz.prog.eqGuardType Tryz.prog.depth 109=false:=by kernel_rfl
theorem bO:DD Tryz.prog 109=some (.agg #[.slice none 0 0,.int .i64 0,.int .i64 0,.int .i64 0]):=by kernel_rfl
theorem dH:Cw Tryz.prog 110=some (true,4):=by kernel_rfl
theorem SZ:Cd Tryz.prog 110 0=some (0,false,1):=by kernel_rfl
theorem S3:Cd Tryz.prog 110 1=some (1,false,1):=by kernel_rfl
theorem Se:Cd Tryz.prog 110 2=some (2,false,1):=by kernel_rfl
theorem QT:Cd Tryz.prog 110 3=some (3,false,1):=by kernel_rfl
theorem eK:CY Tryz.prog 110=true:=by kernel_rfl
theorem ZF:Tryz.prog.stoodInHeld 110=false:=by kernel_rfl
theorem cT:Tryz.prog.eqGuardType Tryz.prog.depth 110=false:=by kernel_rfl
theorem dN:DD Tryz.prog 110=some (.agg #[.slice none 0 0,.int .i64 0,.int .i64 0,.int .i64 0]):=by kernel_rfl
theorem db:Cw Tryz.prog 112=some (false,1):=by kernel_rfl
theorem au:DD Tryz.prog 112=some (.pointer none):=by kernel_rfl
theorem cL:Cw Tryz.prog 119=some (false,1):=by kernel_rfl
theorem ZU:DD Tryz.prog 119=some (.pointer none):=by kernel_rfl
theorem ZB:Cw Tryz.prog 124=some (true,24):=by kernel_rfl
theorem cP:CY Tryz.prog 124=false:=by kernel_rfl
theorem Yv:DD Tryz.prog 124=some (.agg #[.int .u8 0,.int .u8 0,.int .u8 0,.int .u8 0,.int .u8 0,.int .u8 0,.int .u8 0,.int .u8 0,.int .u8 0,.int .u8 0,.int .u8 0,.int .u8 0,.int .u8 0,.int .u8 0,.int .u8 0,.int .u8 0,.int .u8 0,.int .u8 0,.int .u8 0,.int .u8 0,.int .u8 0,.int .u8 0,.int .u8 0,.int .u8 0]):=by kernel_rfl
theorem Y7:Cw Tryz.prog 125=some (false,1):=by kernel_rfl
theorem aZ:DD Tryz.prog 125=some (.int .u64 0):=by kernel_rfl
theorem d4:Cw Tryz.prog 130=some (false,1):=by kernel_rfl
theorem dG:DD Tryz.prog 130=some (.int .u64 0):=by kernel_rfl
theorem eS:Cw Tryz.prog 132=some (false,1):=by kernel_rfl
theorem ZW:DD Tryz.prog 132=some (.pointer none):=by kernel_rfl
theorem aR:Cw Tryz.prog 135=some (true,2):=by kernel_rfl
theorem Ry:Cd Tryz.prog 135 0=some (0,false,1):=by kernel_rfl
theorem Rd:Cd Tryz.prog 135 1=some (1,false,1):=by kernel_rfl
theorem Yz:CY Tryz.prog 135=true:=by kernel_rfl
theorem da:Tryz.prog.stoodInHeld 135=false:=by kernel_rfl
theorem dy:Tryz.prog.eqGuardType Tryz.prog.depth 135=false:=by kernel_rfl
theorem Z8:DD Tryz.prog 135=some (.agg #[.int .i64 0,.int .i64 0]):=by kernel_rfl
theorem aE:Cw Tryz.prog 136=some (true,2):=by kernel_rfl
theorem Qu:Cd Tryz.prog 136 0=some (0,false,1):=by kernel_rfl
theorem TM:Cd Tryz.prog 136 1=some (1,false,1):=by kernel_rfl
theorem Yb:CY Tryz.prog 136=true:=by kernel_rfl
theorem ZS:Tryz.prog.stoodInHeld 136=false:=by kernel_rfl
theorem dq:Tryz.prog.eqGuardType Tryz.prog.depth 136=false:=by kernel_rfl
theorem Zj:DD Tryz.prog 136=some (.agg #[.int .i64 0,.int .i64 0]):=by kernel_rfl
theorem dJ:Cw Tryz.prog 137=some (true,1):=by kernel_rfl
theorem S9:Cd Tryz.prog 137 0=some (0,false,1):=by kernel_rfl
theorem du:CY Tryz.prog 137=true:=by kernel_rfl
theorem aA:Tryz.prog.stoodInHeld 137=false:=by kernel_rfl
theorem dX:Tryz.prog.eqGuardType Tryz.prog.depth 137=false:=by kernel_rfl
theorem eR:DD Tryz.prog 137=some (.agg #[.pointer none]):=by kernel_rfl
theorem aC:Cw Tryz.prog 138=some (true,1):=by kernel_rfl
theorem Qf:Cd Tryz.prog 138 0=some (0,false,1):=by kernel_rfl
theorem YH:CY Tryz.prog 138=true:=by kernel_rfl
theorem aW:Tryz.prog.stoodInHeld 138=false:=by kernel_rfl
theorem Zm:Tryz.prog.eqGuardType Tryz.prog.depth 138=false:=by kernel_rfl
theorem bP:DD Tryz.prog 138=some (.agg #[.pointer none]):=by kernel_rfl
theorem Zk:Cw Tryz.prog 141=some (true,20):=by kernel_rfl
theorem Zh:CY Tryz.prog 141=false:=by kernel_rfl
theorem ag:DD Tryz.prog 141=some (.agg #[.int .u64 0,.int .u64 0,.int .u64 0,.int .u64 0,.int .u64 0,.int .u64 0,.int .u64 0,.int .u64 0,.int .u64 0,.int .u64 0,.int .u64 0,.int .u64 0,.int .u64 0,.int .u64 0,.int .u64 0,.int .u64 0,.int .u64 0,.int .u64 0,.int .u64 0,.int .u64 0]):=by kernel_rfl
theorem bM:Cw Tryz.prog 142=some (false,1):=by kernel_rfl
theorem al:DD Tryz.prog 142=some (.int .u32 0):=by kernel_rfl
theorem ai:Cw Tryz.prog 143=some (true,65):=by kernel_rfl
theorem bE:CY Tryz.prog 143=false:=by kernel_rfl
theorem dr:DD Tryz.prog 143=some (.agg #[.int .u8 0,.int .u8 0,.int .u8 0,.int .u8 0,.int .u8 0,.int .u8 0,.int .u8 0,.int .u8 0,.int .u8 0,.int .u8 0,.int .u8 0,.int .u8 0,.int .u8 0,.int .u8 0,.int .u8 0,.int .u8 0,.int .u8 0,.int .u8 0,.int .u8 0,.int .u8 0,.int .u8 0,.int .u8 0,.int .u8 0,.int .u8 0,.int .u8 0,.int .u8 0,.int .u8 0,.int .u8 0,.int .u8 0,.int .u8 0,.int .u8 0,.int .u8 0,.int .u8 0,.int .u8 0,.int .u8 0,.int .u8 0,.int .u8 0,.int .u8 0,.int .u8 0,.int .u8 0,.int .u8 0,.int .u8 0,.int .u8 0,.int .u8 0,.int .u8 0,.int .u8 0,.int .u8 0,.int .u8 0,.int .u8 0,.int .u8 0,.int .u8 0,.int .u8 0,.int .u8 0,.int .u8 0,.int .u8 0,.int .u8 0,.int .u8 0,.int .u8 0,.int .u8 0,.int .u8 0,.int .u8 0,.int .u8 0,.int .u8 0,.int .u8 0,.int .u8 0]):=by kernel_rfl
theorem dW:Cw Tryz.prog 149=some (true,2):=by kernel_rfl
theorem TU:Cd Tryz.prog 149 0=some (0,false,1):=by kernel_rfl
theorem TL:Cd Tryz.prog 149 1=some (1,false,1):=by kernel_rfl
theorem ZT:CY Tryz.prog 149=true:=by kernel_rfl
theorem YQ:Tryz.prog.stoodInHeld 149=false:=by kernel_rfl
theorem eQ:Tryz.prog.eqGuardType Tryz.prog.depth 149=false:=by kernel_rfl
theorem Yj:DD Tryz.prog 149=some (.agg #[.slice none 0 0,.int .i64 0]):=by kernel_rfl
theorem Z6:Cw Tryz.prog 150=some (true,2):=by kernel_rfl
theorem QV:Cd Tryz.prog 150 0=some (0,false,1):=by kernel_rfl
theorem Ra:Cd Tryz.prog 150 1=some (1,false,1):=by kernel_rfl
theorem YV:CY Tryz.prog 150=true:=by kernel_rfl
theorem cz:Tryz.prog.stoodInHeld 150=false:=by kernel_rfl
theorem bG:Tryz.prog.eqGuardType Tryz.prog.depth 150=false:=by kernel_rfl
theorem YO:DD Tryz.prog 150=some (.agg #[.slice none 0 0,.int .i64 0]):=by kernel_rfl
theorem YG:Cw Tryz.prog 154=some (true,32):=by kernel_rfl
theorem bF:CY Tryz.prog 154=false:=by kernel_rfl
theorem aO:DD Tryz.prog 154=some (.agg #[.int .u8 0,.int .u8 0,.int .u8 0,.int .u8 0,.int .u8 0,.int .u8 0,.int .u8 0,.int .u8 0,.int .u8 0,.int .u8 0,.int .u8 0,.int .u8 0,.int .u8 0,.int .u8 0,.int .u8 0,.int .u8 0,.int .u8 0,.int .u8 0,.int .u8 0,.int .u8 0,.int .u8 0,.int .u8 0,.int .u8 0,.int .u8 0,.int .u8 0,.int .u8 0,.int .u8 0,.int .u8 0,.int .u8 0,.int .u8 0,.int .u8 0,.int .u8 0]):=by kernel_rfl
theorem Yu:Cw Tryz.prog 155=some (true,64):=by kernel_rfl
theorem bd:CY Tryz.prog 155=false:=by kernel_rfl
theorem b9:DD Tryz.prog 155=some (.agg #[.int .u8 0,.int .u8 0,.int .u8 0,.int .u8 0,.int .u8 0,.int .u8 0,.int .u8 0,.int .u8 0,.int .u8 0,.int .u8 0,.int .u8 0,.int .u8 0,.int .u8 0,.int .u8 0,.int .u8 0,.int .u8 0,.int .u8 0,.int .u8 0,.int .u8 0,.int .u8 0,.int .u8 0,.int .u8 0,.int .u8 0,.int .u8 0,.int .u8 0,.int .u8 0,.int .u8 0,.int .u8 0,.int .u8 0,.int .u8 0,.int .u8 0,.int .u8 0,.int .u8 0,.int .u8 0,.int .u8 0,.int .u8 0,.int .u8 0,.int .u8 0,.int .u8 0,.int .u8 0,.int .u8 0,.int .u8 0,.int .u8 0,.int .u8 0,.int .u8 0,.int .u8 0,.int .u8 0,.int .u8 0,.int .u8 0,.int .u8 0,.int .u8 0,.int .u8 0,.int .u8 0,.int .u8 0,.int .u8 0,.int .u8 0,.int .u8 0,.int .u8 0,.int .u8 0,.int .u8 0,.int .u8 0,.int .u8 0,.int .u8 0,.int .u8 0]):=by kernel_rfl
theorem cR:Cw Tryz.prog 159=some (true,4):=by kernel_rfl
theorem Qg:Cd Tryz.prog 159 0=some (0,false,1):=by kernel_rfl
theorem RD:Cd Tryz.prog 159 1=some (1,false,1):=by kernel_rfl
theorem Qc:Cd Tryz.prog 159 2=some (2,false,1):=by kernel_rfl
theorem RM:Cd Tryz.prog 159 3=some (3,false,1):=by kernel_rfl
theorem Zu:CY Tryz.prog 159=true:=by kernel_rfl
theorem Zr:DD Tryz.prog 159=some (.agg #[.pointer none,.pointer none,.pointer none,.string ⟨#[]⟩]):=by kernel_rfl
theorem cM:Cw Tryz.prog 160=some (true,4):=by kernel_rfl
theorem Qm:Cd Tryz.prog 160 0=some (0,false,1):=by kernel_rfl
theorem TS:Cd Tryz.prog 160 1=some (1,false,1):=by kernel_rfl
theorem QX:Cd Tryz.prog 160 2=some (2,false,1):=by kernel_rfl
theorem Sm:Cd Tryz.prog 160 3=some (3,false,1):=by kernel_rfl
theorem Yd:CY Tryz.prog 160=true:=by kernel_rfl
theorem Y8:DD Tryz.prog 160=some (.agg #[.pointer none,.pointer none,.pointer none,.string ⟨#[]⟩]):=by kernel_rfl
theorem ZA:Cw Tryz.prog 161=some (true,0):=by kernel_rfl
theorem aY:CY Tryz.prog 161=false:=by kernel_rfl
theorem Y5:DD Tryz.prog 161=some (.agg #[]):=by kernel_rfl
theorem Zw:Cw Tryz.prog 162=some (true,0):=by kernel_rfl
theorem SH:Cd Tryz.prog 162 0=some (0,true,0):=by kernel_rfl
theorem ZX:CY Tryz.prog 162=true:=by kernel_rfl
theorem ZV:DD Tryz.prog 162=some (.agg #[]):=by kernel_rfl
theorem cB:Cw Tryz.prog 163=some (true,0):=by kernel_rfl
theorem S6:Cd Tryz.prog 163 0=some (0,true,0):=by kernel_rfl
theorem ZO:CY Tryz.prog 163=true:=by kernel_rfl
theorem YU:DD Tryz.prog 163=some (.agg #[]):=by kernel_rfl
theorem aT:Cw Tryz.prog 164=some (false,1):=by kernel_rfl
theorem c5:DD Tryz.prog 164=some (.int .u8 0):=by kernel_rfl
theorem YR:Cw Tryz.prog 165=some (false,1):=by kernel_rfl
theorem Ye:DD Tryz.prog 165=some (.int .u8 0):=by kernel_rfl
theorem eO:Cw Tryz.prog 167=some (false,1):=by kernel_rfl
theorem eJ:DD Tryz.prog 167=some (.int .i32 0):=by kernel_rfl
theorem ZD:Cw Tryz.prog 168=some (false,1):=by kernel_rfl
theorem dL:DD Tryz.prog 168=some (.int .i32 0):=by kernel_rfl
theorem YM:Cw Tryz.prog 169=some (true,11):=by kernel_rfl
theorem TJ:Cd Tryz.prog 169 0=some (0,false,1):=by kernel_rfl
theorem Sl:Cd Tryz.prog 169 1=some (1,false,1):=by kernel_rfl
theorem RX:Cd Tryz.prog 169 2=some (2,false,1):=by kernel_rfl
theorem SJ:Cd Tryz.prog 169 3=some (3,false,1):=by kernel_rfl
theorem Qt:Cd Tryz.prog 169 4=some (4,false,1):=by kernel_rfl
theorem RV:Cd Tryz.prog 169 5=some (5,false,1):=by kernel_rfl
theorem Q5:Cd Tryz.prog 169 6=some (6,false,1):=by kernel_rfl
theorem Q9:Cd Tryz.prog 169 7=some (7,false,1):=by kernel_rfl
theorem Rv:Cd Tryz.prog 169 8=some (8,false,1):=by kernel_rfl
theorem SW:Cd Tryz.prog 169 9=some (9,false,1):=by kernel_rfl
theorem Nc:Cd Tryz.prog 169 10=some (10,false,1):=by kernel_rfl
theorem ca:CY Tryz.prog 169=true:=by kernel_rfl
theorem eT:DD Tryz.prog 169=some (.agg #[.int .u64 0,.int .u64 0,.int .u32 0,.int .u8 0,.int .u8 0,.int .u8 0,.int .u8 0,.nilFunc,.pointer none,.int .i32 0,.int .i32 0]):=by kernel_rfl
theorem ax:Cw Tryz.prog 170=some (true,11):=by kernel_rfl
theorem RO:Cd Tryz.prog 170 0=some (0,false,1):=by kernel_rfl
theorem SQ:Cd Tryz.prog 170 1=some (1,false,1):=by kernel_rfl
theorem Sq:Cd Tryz.prog 170 2=some (2,false,1):=by kernel_rfl
theorem TF:Cd Tryz.prog 170 3=some (3,false,1):=by kernel_rfl
theorem Qw:Cd Tryz.prog 170 4=some (4,false,1):=by kernel_rfl
theorem SY:Cd Tryz.prog 170 5=some (5,false,1):=by kernel_rfl
theorem R2:Cd Tryz.prog 170 6=some (6,false,1):=by kernel_rfl
theorem Sx:Cd Tryz.prog 170 7=some (7,false,1):=by kernel_rfl
theorem Qe:Cd Tryz.prog 170 8=some (8,false,1):=by kernel_rfl
theorem Q7:Cd Tryz.prog 170 9=some (9,false,1):=by kernel_rfl
theorem NQ:Cd Tryz.prog 170 10=some (10,false,1):=by kernel_rfl
theorem ZG:CY Tryz.prog 170=true:=by kernel_rfl
theorem dh:DD Tryz.prog 170=some (.agg #[.int .u64 0,.int .u64 0,.int .u32 0,.int .u8 0,.int .u8 0,.int .u8 0,.int .u8 0,.nilFunc,.pointer none,.int .i32 0,.int .i32 0]):=by kernel_rfl
theorem qQ:AD Tryz.prog 2=true:=by kernel_rfl
theorem p6:AD Tryz.prog 3=true:=by kernel_rfl
theorem qL:AD Tryz.prog 4=true:=by kernel_rfl
theorem qt:AD Tryz.prog 5=true:=by kernel_rfl
theorem pD:AD Tryz.prog 6=true:=by kernel_rfl
theorem qq:AD Tryz.prog 7=true:=by kernel_rfl
theorem qM:AD Tryz.prog 8=true:=by kernel_rfl
theorem qG:AD Tryz.prog 9=true:=by kernel_rfl
theorem jU:AD Tryz.prog 10=true:=by kernel_rfl
theorem gM:AD Tryz.prog 11=true:=by kernel_rfl
theorem iM:AD Tryz.prog 12=true:=by kernel_rfl
theorem gG:AD Tryz.prog 13=true:=by kernel_rfl
theorem iS:AD Tryz.prog 14=true:=by kernel_rfl
theorem iF:AD Tryz.prog 15=true:=by kernel_rfl
theorem jR:AD Tryz.prog 16=true:=by kernel_rfl
theorem lV:AD Tryz.prog 17=true:=by kernel_rfl
theorem gj:AD Tryz.prog 18=true:=by kernel_rfl
theorem lZ:AD Tryz.prog 19=true:=by kernel_rfl
theorem lg:AD Tryz.prog 20=true:=by kernel_rfl
theorem kq:AD Tryz.prog 21=true:=by kernel_rfl
theorem kQ:AD Tryz.prog 22=true:=by kernel_rfl
theorem gF:AD Tryz.prog 23=true:=by kernel_rfl
theorem gc:AD Tryz.prog 24=true:=by kernel_rfl
theorem jE:AD Tryz.prog 25=true:=by kernel_rfl
theorem gk:AD Tryz.prog 26=true:=by kernel_rfl
theorem iU:AD Tryz.prog 27=true:=by kernel_rfl
theorem kY:AD Tryz.prog 28=true:=by kernel_rfl
theorem lK:AD Tryz.prog 29=true:=by kernel_rfl
theorem j4:AD Tryz.prog 30=true:=by kernel_rfl
theorem lQ:AD Tryz.prog 31=true:=by kernel_rfl
theorem gv:AD Tryz.prog 32=true:=by kernel_rfl
theorem kc:AD Tryz.prog 33=true:=by kernel_rfl
theorem jo:AD Tryz.prog 34=true:=by kernel_rfl
theorem mB:AD Tryz.prog 35=true:=by kernel_rfl
theorem jz:AD Tryz.prog 36=true:=by kernel_rfl
theorem k9:AD Tryz.prog 37=true:=by kernel_rfl
theorem jK:AD Tryz.prog 38=true:=by kernel_rfl
theorem k7:AD Tryz.prog 39=true:=by kernel_rfl
theorem jT:AD Tryz.prog 40=true:=by kernel_rfl
theorem kr:AD Tryz.prog 41=true:=by kernel_rfl
theorem lW:AD Tryz.prog 42=true:=by kernel_rfl
theorem j6:AD Tryz.prog 43=true:=by kernel_rfl
theorem kz:AD Tryz.prog 44=true:=by kernel_rfl
theorem jk:AD Tryz.prog 45=true:=by kernel_rfl
theorem il:AD Tryz.prog 46=true:=by kernel_rfl
theorem kM:AD Tryz.prog 47=true:=by kernel_rfl
theorem i6:AD Tryz.prog 48=true:=by kernel_rfl
theorem lU:AD Tryz.prog 49=true:=by kernel_rfl
theorem lO:AD Tryz.prog 50=true:=by kernel_rfl
theorem jQ:AD Tryz.prog 51=true:=by kernel_rfl
theorem k8:AD Tryz.prog 52=true:=by kernel_rfl
theorem iV:AD Tryz.prog 53=true:=by kernel_rfl
theorem gm:AD Tryz.prog 54=true:=by kernel_rfl
theorem j8:AD Tryz.prog 55=true:=by kernel_rfl
theorem jN:AD Tryz.prog 56=true:=by kernel_rfl
theorem lf:AD Tryz.prog 57=true:=by kernel_rfl
theorem gh:AD Tryz.prog 58=true:=by kernel_rfl
theorem iR:AD Tryz.prog 59=true:=by kernel_rfl
theorem iW:AD Tryz.prog 60=true:=by kernel_rfl
theorem hJ:AD Tryz.prog 61=true:=by kernel_rfl
theorem iQ:AD Tryz.prog 62=true:=by kernel_rfl
theorem kL:AD Tryz.prog 63=true:=by kernel_rfl
theorem mF:AD Tryz.prog 64=true:=by kernel_rfl
theorem lq:AD Tryz.prog 65=true:=by kernel_rfl
theorem iT:AD Tryz.prog 66=true:=by kernel_rfl
theorem jS:AD Tryz.prog 67=true:=by kernel_rfl
theorem gY:AD Tryz.prog 68=true:=by kernel_rfl
theorem lu:AD Tryz.prog 69=true:=by kernel_rfl
theorem kl:AD Tryz.prog 70=true:=by kernel_rfl
theorem jf:AD Tryz.prog 71=true:=by kernel_rfl
theorem ja:AD Tryz.prog 72=true:=by kernel_rfl
theorem jl:AD Tryz.prog 73=true:=by kernel_rfl
theorem gu:AD Tryz.prog 74=true:=by kernel_rfl
theorem lS:AD Tryz.prog 75=true:=by kernel_rfl
theorem jt:AD Tryz.prog 76=true:=by kernel_rfl
theorem ik:AD Tryz.prog 77=true:=by kernel_rfl
theorem iY:AD Tryz.prog 78=true:=by kernel_rfl
theorem lB:AD Tryz.prog 79=true:=by kernel_rfl
theorem gK:AD Tryz.prog 80=true:=by kernel_rfl
theorem kv:AD Tryz.prog 81=true:=by kernel_rfl
theorem lh:AD Tryz.prog 82=true:=by kernel_rfl
theorem hU:AD Tryz.prog 83=true:=by kernel_rfl
theorem iu:AD Tryz.prog 84=true:=by kernel_rfl
theorem mK:AD Tryz.prog 85=true:=by kernel_rfl
theorem mM:AD Tryz.prog 86=true:=by kernel_rfl
theorem kB:AD Tryz.prog 87=true:=by kernel_rfl
theorem k6:AD Tryz.prog 88=true:=by kernel_rfl
theorem j7:AD Tryz.prog 89=true:=by kernel_rfl
theorem lL:AD Tryz.prog 90=true:=by kernel_rfl
theorem jv:AD Tryz.prog 91=true:=by kernel_rfl
theorem gX:AD Tryz.prog 92=true:=by kernel_rfl
theorem lH:AD Tryz.prog 93=true:=by kernel_rfl
theorem mJ:AD Tryz.prog 94=true:=by kernel_rfl
theorem mO:AD Tryz.prog 95=true:=by kernel_rfl
theorem gi:AD Tryz.prog 97=true:=by kernel_rfl
theorem ji:AD Tryz.prog 98=true:=by kernel_rfl
theorem l6:AD Tryz.prog 99=true:=by kernel_rfl
theorem YS:AD Tryz.prog 100=true:=by kernel_rfl
theorem dU:AD Tryz.prog 101=true:=by kernel_rfl
theorem Y6:AD Tryz.prog 102=true:=by kernel_rfl
theorem cG:AD Tryz.prog 103=true:=by kernel_rfl
theorem bB:AD Tryz.prog 104=true:=by kernel_rfl
theorem bg:AD Tryz.prog 105=true:=by kernel_rfl
theorem aX:AD Tryz.prog 106=true:=by kernel_rfl
theorem ar:AD Tryz.prog 107=true:=by kernel_rfl
theorem ZP:AD Tryz.prog 108=true:=by kernel_rfl
theorem Z1:AD Tryz.prog 109=true:=by kernel_rfl
theorem Y9:AD Tryz.prog 110=true:=by kernel_rfl
theorem bn:AD Tryz.prog 111=true:=by kernel_rfl
theorem eG:AD Tryz.prog 112=true:=by kernel_rfl
theorem YL:AD Tryz.prog 113=true:=by kernel_rfl
theorem dS:AD Tryz.prog 114=true:=by kernel_rfl
theorem aP:AD Tryz.prog 115=true:=by kernel_rfl
theorem dK:AD Tryz.prog 116=true:=by kernel_rfl
theorem c4:AD Tryz.prog 117=true:=by kernel_rfl
theorem ZY:AD Tryz.prog 118=true:=by kernel_rfl
theorem Zq:AD Tryz.prog 119=true:=by kernel_rfl
theorem Yp:AD Tryz.prog 120=true:=by kernel_rfl
theorem bV:AD Tryz.prog 121=true:=by kernel_rfl
theorem Zf:AD Tryz.prog 122=true:=by kernel_rfl
theorem Z3:AD Tryz.prog 123=true:=by kernel_rfl
theorem Ya:AD Tryz.prog 125=true:=by kernel_rfl
theorem cu:AD Tryz.prog 126=true:=by kernel_rfl
theorem ct:AD Tryz.prog 128=true:=by kernel_rfl
theorem dF:AD Tryz.prog 129=true:=by kernel_rfl
theorem Zp:AD Tryz.prog 130=true:=by kernel_rfl
theorem bL:AD Tryz.prog 131=true:=by kernel_rfl
theorem cH:AD Tryz.prog 132=true:=by kernel_rfl
theorem Yx:AD Tryz.prog 133=true:=by kernel_rfl
theorem Yt:AD Tryz.prog 134=true:=by kernel_rfl
theorem ZQ:AD Tryz.prog 135=true:=by kernel_rfl
theorem br:AD Tryz.prog 136=true:=by kernel_rfl
theorem dj:AD Tryz.prog 137=true:=by kernel_rfl
theorem ZN:AD Tryz.prog 138=true:=by kernel_rfl
theorem Zs:AD Tryz.prog 139=true:=by kernel_rfl
theorem eE:AD Tryz.prog 140=true:=by kernel_rfl
theorem dT:AD Tryz.prog 141=true:=by kernel_rfl
theorem Zc:AD Tryz.prog 142=true:=by kernel_rfl
theorem ZH:AD Tryz.prog 143=true:=by kernel_rfl
theorem Ze:AD Tryz.prog 144=true:=by kernel_rfl
theorem b8:AD Tryz.prog 145=true:=by kernel_rfl
theorem YY:AD Tryz.prog 146=true:=by kernel_rfl
theorem cw:AD Tryz.prog 147=true:=by kernel_rfl
theorem cE:AD Tryz.prog 148=true:=by kernel_rfl
theorem bU:AD Tryz.prog 149=true:=by kernel_rfl
theorem cf:AD Tryz.prog 150=true:=by kernel_rfl
theorem cp:AD Tryz.prog 151=true:=by kernel_rfl
theorem cX:AD Tryz.prog 152=true:=by kernel_rfl
theorem cy:AD Tryz.prog 153=true:=by kernel_rfl
theorem cJ:AD Tryz.prog 154=true:=by kernel_rfl
theorem dw:AD Tryz.prog 155=true:=by kernel_rfl
theorem cr:AD Tryz.prog 156=true:=by kernel_rfl
theorem dZ:AD Tryz.prog 157=true:=by kernel_rfl
theorem dv:AD Tryz.prog 158=true:=by kernel_rfl
theorem dV:AD Tryz.prog 159=true:=by kernel_rfl
theorem cV:AD Tryz.prog 160=true:=by kernel_rfl
theorem ZE:AD Tryz.prog 161=true:=by kernel_rfl
theorem cO:AD Tryz.prog 162=true:=by kernel_rfl
theorem Zg:AD Tryz.prog 163=true:=by kernel_rfl
theorem aj:AD Tryz.prog 164=true:=by kernel_rfl
theorem YX:AD Tryz.prog 165=true:=by kernel_rfl
theorem Yi:AD Tryz.prog 166=true:=by kernel_rfl
theorem ZM:AD Tryz.prog 167=true:=by kernel_rfl
theorem dO:AD Tryz.prog 168=true:=by kernel_rfl
theorem aM:AD Tryz.prog 169=true:=by kernel_rfl
theorem bb:AD Tryz.prog 170=true:=by kernel_rfl
theorem Y4:AD Tryz.prog 171=true:=by kernel_rfl
theorem Zd:AD Tryz.prog 196=true:=by kernel_rfl
theorem p7:AD Tryz.prog 0=false:=by kernel_rfl
theorem qJ:AD Tryz.prog 1=false:=by kernel_rfl
theorem jc:AD Tryz.prog 96=false:=by kernel_rfl
theorem bX:AD Tryz.prog 124=false:=by kernel_rfl
theorem ak:AD Tryz.prog 127=false:=by kernel_rfl
theorem Z5:AD Tryz.prog 172=false:=by kernel_rfl
theorem ZK:AD Tryz.prog 173=false:=by kernel_rfl
theorem Zx:AD Tryz.prog 174=false:=by kernel_rfl
theorem bp:AD Tryz.prog 175=false:=by kernel_rfl
theorem eC:AD Tryz.prog 176=false:=by kernel_rfl
theorem Yy:AD Tryz.prog 177=false:=by kernel_rfl
theorem ae:AD Tryz.prog 178=false:=by kernel_rfl
theorem bj:AD Tryz.prog 179=false:=by kernel_rfl
theorem Zb:AD Tryz.prog 180=false:=by kernel_rfl
theorem Yl:AD Tryz.prog 181=false:=by kernel_rfl
theorem bJ:AD Tryz.prog 182=false:=by kernel_rfl
theorem Yq:AD Tryz.prog 183=false:=by kernel_rfl
theorem az:AD Tryz.prog 184=false:=by kernel_rfl
theorem aF:AD Tryz.prog 185=false:=by kernel_rfl
theorem Zn:AD Tryz.prog 186=false:=by kernel_rfl
theorem bt:AD Tryz.prog 187=false:=by kernel_rfl
theorem Y0:AD Tryz.prog 188=false:=by kernel_rfl
theorem dm:AD Tryz.prog 189=false:=by kernel_rfl
theorem Za:AD Tryz.prog 190=false:=by kernel_rfl
theorem Ym:AD Tryz.prog 191=false:=by kernel_rfl
theorem Zv:AD Tryz.prog 192=false:=by kernel_rfl
theorem df:AD Tryz.prog 193=false:=by kernel_rfl
theorem ZJ:AD Tryz.prog 194=false:=by kernel_rfl
theorem Yh:AD Tryz.prog 195=false:=by kernel_rfl
theorem pc:type_of% (And.intro @qf (And.intro @oW (And.intro @oZ (And.intro @oV (And.intro @pQ (And.intro @oN (And.intro @oO (And.intro @pf (And.intro @pM (And.intro @qc (And.intro @ow (And.intro @cW (And.intro @YK (And.intro @YF (And.intro @aV (And.intro @o9 (And.intro @oR (And.intro @pG (And.intro @di (And.intro @aK (And.intro @dc (And.intro @aG (And.intro @qF (And.intro @pg (And.intro @pz (And.intro @ph (And.intro @lT (And.intro @lX (And.intro @ln (And.intro @iH (And.intro @mA (And.intro @gD (And.intro @ip (And.intro @Wh (And.intro @U5 (And.intro @mE (And.intro @mC (And.intro @ld (And.intro @Um (And.intro @VQ (And.intro @ly (And.intro @iG (And.intro @gx (And.intro @gr (And.intro @kO (And.intro @iN (And.intro @ig (And.intro @kF (And.intro @gN (And.intro @W3 (And.intro @jM (And.intro @ir (And.intro @js (And.intro @XF (And.intro @ib (And.intro @la (And.intro @jV (And.intro @mD (And.intro @iO (And.intro @mQ (And.intro @kC (And.intro @ij (And.intro @WK (And.intro @mL (And.intro @iE (And.intro @ks (And.intro @lP (And.intro @RL (And.intro @iA (And.intro @Vo (And.intro @Ux (And.intro @VS (And.intro @WD (And.intro @Wp (And.intro @jH (And.intro @gL (And.intro @gW (And.intro @iy (And.intro @kH (And.intro @V7 (And.intro @V6 (And.intro @US (And.intro @V0 (And.intro @WQ (And.intro @kR (And.intro @gf (And.intro @ko (And.intro @QL (And.intro @lb (And.intro @VW (And.intro @V1 (And.intro @XC (And.intro @VM (And.intro @UC (And.intro @WL (And.intro @jX (And.intro @kU (And.intro @kX (And.intro @gT (@mG)))))))))))))))))))))))))))))))))))))))))))))))))))))))))))))))))))))))))))))))))))))))))))))))))))):=And.intro @qf (And.intro @oW (And.intro @oZ (And.intro @oV (And.intro @pQ (And.intro @oN (And.intro @oO (And.intro @pf (And.intro @pM (And.intro @qc (And.intro @ow (And.intro @cW (And.intro @YK (And.intro @YF (And.intro @aV (And.intro @o9 (And.intro @oR (And.intro @pG (And.intro @di (And.intro @aK (And.intro @dc (And.intro @aG (And.intro @qF (And.intro @pg (And.intro @pz (And.intro @ph (And.intro @lT (And.intro @lX (And.intro @ln (And.intro @iH (And.intro @mA (And.intro @gD (And.intro @ip (And.intro @Wh (And.intro @U5 (And.intro @mE (And.intro @mC (And.intro @ld (And.intro @Um (And.intro @VQ (And.intro @ly (And.intro @iG (And.intro @gx (And.intro @gr (And.intro @kO (And.intro @iN (And.intro @ig (And.intro @kF (And.intro @gN (And.intro @W3 (And.intro @jM (And.intro @ir (And.intro @js (And.intro @XF (And.intro @ib (And.intro @la (And.intro @jV (And.intro @mD (And.intro @iO (And.intro @mQ (And.intro @kC (And.intro @ij (And.intro @WK (And.intro @mL (And.intro @iE (And.intro @ks (And.intro @lP (And.intro @RL (And.intro @iA (And.intro @Vo (And.intro @Ux (And.intro @VS (And.intro @WD (And.intro @Wp (And.intro @jH (And.intro @gL (And.intro @gW (And.intro @iy (And.intro @kH (And.intro @V7 (And.intro @V6 (And.intro @US (And.intro @V0 (And.intro @WQ (And.intro @kR (And.intro @gf (And.intro @ko (And.intro @QL (And.intro @lb (And.intro @VW (And.intro @V1 (And.intro @XC (And.intro @VM (And.intro @UC (And.intro @WL (And.intro @jX (And.intro @kU (And.intro @kX (And.intro @gT (@mG)))))))))))))))))))))))))))))))))))))))))))))))))))))))))))))))))))))))))))))))))))))))))))))))))))
theorem ox:type_of% (And.intro @Vg (And.intro @V4 (And.intro @Vv (And.intro @V8 (And.intro @V5 (And.intro @Ub (And.intro @jG (And.intro @lD (And.intro @kn (And.intro @VX (And.intro @kV (And.intro @Wq (And.intro @Ut (And.intro @ia (And.intro @iK (And.intro @iw (And.intro @kS (And.intro @l9 (And.intro @WT (And.intro @Vf (And.intro @g9 (And.intro @kT (And.intro @mN (And.intro @jr (And.intro @kW (And.intro @je (And.intro @O8 (And.intro @jL (And.intro @lA (And.intro @jO (And.intro @VD (And.intro @WX (And.intro @WE (And.intro @W6 (And.intro @UK (And.intro @j9 (And.intro @kE (And.intro @iL (And.intro @lF (And.intro @iZ (And.intro @UG (And.intro @Up (And.intro @VN (And.intro @WY (And.intro @Vu (And.intro @gn (And.intro @hF (And.intro @ju (And.intro @gR (And.intro @iD (And.intro @Uh (And.intro @VO (And.intro @VC (And.intro @XA (And.intro @mP (And.intro @ku (And.intro @gQ (And.intro @lY (And.intro @jY (And.intro @Ul (And.intro @UY (And.intro @Un (And.intro @Wr (And.intro @lM (And.intro @iJ (And.intro @lE (And.intro @PA (And.intro @jJ (And.intro @ll (And.intro @ix (And.intro @V9 (And.intro @XK (And.intro @VG (And.intro @UU (And.intro @Uk (And.intro @jh (And.intro @ka (And.intro @jx (And.intro @g8 (And.intro @gP (And.intro @UF (And.intro @Vw (And.intro @Ua (And.intro @Wv (And.intro @WB (And.intro @lC (And.intro @gl (And.intro @lJ (And.intro @kx (And.intro @lN (And.intro @kj (And.intro @l8 (And.intro @jP (And.intro @iB (And.intro @j5 (And.intro @WO (And.intro @W5 (And.intro @kP (And.intro @gU (@jA)))))))))))))))))))))))))))))))))))))))))))))))))))))))))))))))))))))))))))))))))))))))))))))))))))):=And.intro @Vg (And.intro @V4 (And.intro @Vv (And.intro @V8 (And.intro @V5 (And.intro @Ub (And.intro @jG (And.intro @lD (And.intro @kn (And.intro @VX (And.intro @kV (And.intro @Wq (And.intro @Ut (And.intro @ia (And.intro @iK (And.intro @iw (And.intro @kS (And.intro @l9 (And.intro @WT (And.intro @Vf (And.intro @g9 (And.intro @kT (And.intro @mN (And.intro @jr (And.intro @kW (And.intro @je (And.intro @O8 (And.intro @jL (And.intro @lA (And.intro @jO (And.intro @VD (And.intro @WX (And.intro @WE (And.intro @W6 (And.intro @UK (And.intro @j9 (And.intro @kE (And.intro @iL (And.intro @lF (And.intro @iZ (And.intro @UG (And.intro @Up (And.intro @VN (And.intro @WY (And.intro @Vu (And.intro @gn (And.intro @hF (And.intro @ju (And.intro @gR (And.intro @iD (And.intro @Uh (And.intro @VO (And.intro @VC (And.intro @XA (And.intro @mP (And.intro @ku (And.intro @gQ (And.intro @lY (And.intro @jY (And.intro @Ul (And.intro @UY (And.intro @Un (And.intro @Wr (And.intro @lM (And.intro @iJ (And.intro @lE (And.intro @PA (And.intro @jJ (And.intro @ll (And.intro @ix (And.intro @V9 (And.intro @XK (And.intro @VG (And.intro @UU (And.intro @Uk (And.intro @jh (And.intro @ka (And.intro @jx (And.intro @g8 (And.intro @gP (And.intro @UF (And.intro @Vw (And.intro @Ua (And.intro @Wv (And.intro @WB (And.intro @lC (And.intro @gl (And.intro @lJ (And.intro @kx (And.intro @lN (And.intro @kj (And.intro @l8 (And.intro @jP (And.intro @iB (And.intro @j5 (And.intro @WO (And.intro @W5 (And.intro @kP (And.intro @gU (@jA)))))))))))))))))))))))))))))))))))))))))))))))))))))))))))))))))))))))))))))))))))))))))))))))))))
theorem qd:type_of% (And.intro @Wy (And.intro @Vq (And.intro @jq (And.intro @kG (And.intro @gO (And.intro @jn (And.intro @jm (And.intro @jF (And.intro @gH (And.intro @jd (And.intro @i7 (And.intro @Ug (And.intro @VR (And.intro @jB (And.intro @gS (And.intro @mH (And.intro @kN (And.intro @kJ (And.intro @kf (And.intro @lR (And.intro @kD (And.intro @ga (And.intro @iP (And.intro @Zt (And.intro @Y3 (And.intro @Z4 (And.intro @SC (And.intro @Rk (And.intro @Ss (And.intro @Sj (And.intro @Zi (And.intro @d7 (And.intro @eM (And.intro @bO (And.intro @dH (And.intro @SZ (And.intro @S3 (And.intro @Se (And.intro @QT (And.intro @eK (And.intro @ZF (And.intro @cT (And.intro @dN (And.intro @db (And.intro @au (And.intro @cL (And.intro @ZU (And.intro @ZB (And.intro @cP (And.intro @Yv (And.intro @Y7 (And.intro @aZ (And.intro @d4 (And.intro @dG (And.intro @eS (And.intro @ZW (And.intro @aR (And.intro @Ry (And.intro @Rd (And.intro @Yz (And.intro @da (And.intro @dy (And.intro @Z8 (And.intro @aE (And.intro @Qu (And.intro @TM (And.intro @Yb (And.intro @ZS (And.intro @dq (And.intro @Zj (And.intro @dJ (And.intro @S9 (And.intro @du (And.intro @aA (And.intro @dX (And.intro @eR (And.intro @aC (And.intro @Qf (And.intro @YH (And.intro @aW (And.intro @Zm (And.intro @bP (And.intro @Zk (And.intro @Zh (And.intro @ag (And.intro @bM (And.intro @al (And.intro @ai (And.intro @bE (And.intro @dr (And.intro @dW (And.intro @TU (And.intro @TL (And.intro @ZT (And.intro @YQ (And.intro @eQ (And.intro @Yj (And.intro @Z6 (And.intro @QV (@Ra)))))))))))))))))))))))))))))))))))))))))))))))))))))))))))))))))))))))))))))))))))))))))))))))))))):=And.intro @Wy (And.intro @Vq (And.intro @jq (And.intro @kG (And.intro @gO (And.intro @jn (And.intro @jm (And.intro @jF (And.intro @gH (And.intro @jd (And.intro @i7 (And.intro @Ug (And.intro @VR (And.intro @jB (And.intro @gS (And.intro @mH (And.intro @kN (And.intro @kJ (And.intro @kf (And.intro @lR (And.intro @kD (And.intro @ga (And.intro @iP (And.intro @Zt (And.intro @Y3 (And.intro @Z4 (And.intro @SC (And.intro @Rk (And.intro @Ss (And.intro @Sj (And.intro @Zi (And.intro @d7 (And.intro @eM (And.intro @bO (And.intro @dH (And.intro @SZ (And.intro @S3 (And.intro @Se (And.intro @QT (And.intro @eK (And.intro @ZF (And.intro @cT (And.intro @dN (And.intro @db (And.intro @au (And.intro @cL (And.intro @ZU (And.intro @ZB (And.intro @cP (And.intro @Yv (And.intro @Y7 (And.intro @aZ (And.intro @d4 (And.intro @dG (And.intro @eS (And.intro @ZW (And.intro @aR (And.intro @Ry (And.intro @Rd (And.intro @Yz (And.intro @da (And.intro @dy (And.intro @Z8 (And.intro @aE (And.intro @Qu (And.intro @TM (And.intro @Yb (And.intro @ZS (And.intro @dq (And.intro @Zj (And.intro @dJ (And.intro @S9 (And.intro @du (And.intro @aA (And.intro @dX (And.intro @eR (And.intro @aC (And.intro @Qf (And.intro @YH (And.intro @aW (And.intro @Zm (And.intro @bP (And.intro @Zk (And.intro @Zh (And.intro @ag (And.intro @bM (And.intro @al (And.intro @ai (And.intro @bE (And.intro @dr (And.intro @dW (And.intro @TU (And.intro @TL (And.intro @ZT (And.intro @YQ (And.intro @eQ (And.intro @Yj (And.intro @Z6 (And.intro @QV (@Ra)))))))))))))))))))))))))))))))))))))))))))))))))))))))))))))))))))))))))))))))))))))))))))))))))))
theorem pO:type_of% (And.intro @YV (And.intro @cz (And.intro @bG (And.intro @YO (And.intro @YG (And.intro @bF (And.intro @aO (And.intro @Yu (And.intro @bd (And.intro @b9 (And.intro @cR (And.intro @Qg (And.intro @RD (And.intro @Qc (And.intro @RM (And.intro @Zu (And.intro @Zr (And.intro @cM (And.intro @Qm (And.intro @TS (And.intro @QX (And.intro @Sm (And.intro @Yd (And.intro @Y8 (And.intro @ZA (And.intro @aY (And.intro @Y5 (And.intro @Zw (And.intro @SH (And.intro @ZX (And.intro @ZV (And.intro @cB (And.intro @S6 (And.intro @ZO (And.intro @YU (And.intro @aT (And.intro @c5 (And.intro @YR (And.intro @Ye (And.intro @eO (And.intro @eJ (And.intro @ZD (And.intro @dL (And.intro @YM (And.intro @TJ (And.intro @Sl (And.intro @RX (And.intro @SJ (And.intro @Qt (And.intro @RV (And.intro @Q5 (And.intro @Q9 (And.intro @Rv (And.intro @SW (And.intro @Nc (And.intro @ca (And.intro @eT (And.intro @ax (And.intro @RO (And.intro @SQ (And.intro @Sq (And.intro @TF (And.intro @Qw (And.intro @SY (And.intro @R2 (And.intro @Sx (And.intro @Qe (And.intro @Q7 (And.intro @NQ (And.intro @ZG (And.intro @dh (And.intro @qQ (And.intro @p6 (And.intro @qL (And.intro @qt (And.intro @pD (And.intro @qq (And.intro @qM (And.intro @qG (And.intro @jU (And.intro @gM (And.intro @iM (And.intro @gG (And.intro @iS (And.intro @iF (And.intro @jR (And.intro @lV (And.intro @gj (And.intro @lZ (And.intro @lg (And.intro @kq (And.intro @kQ (And.intro @gF (And.intro @gc (And.intro @jE (And.intro @gk (And.intro @iU (And.intro @kY (And.intro @lK (@j4)))))))))))))))))))))))))))))))))))))))))))))))))))))))))))))))))))))))))))))))))))))))))))))))))))):=And.intro @YV (And.intro @cz (And.intro @bG (And.intro @YO (And.intro @YG (And.intro @bF (And.intro @aO (And.intro @Yu (And.intro @bd (And.intro @b9 (And.intro @cR (And.intro @Qg (And.intro @RD (And.intro @Qc (And.intro @RM (And.intro @Zu (And.intro @Zr (And.intro @cM (And.intro @Qm (And.intro @TS (And.intro @QX (And.intro @Sm (And.intro @Yd (And.intro @Y8 (And.intro @ZA (And.intro @aY (And.intro @Y5 (And.intro @Zw (And.intro @SH (And.intro @ZX (And.intro @ZV (And.intro @cB (And.intro @S6 (And.intro @ZO (And.intro @YU (And.intro @aT (And.intro @c5 (And.intro @YR (And.intro @Ye (And.intro @eO (And.intro @eJ (And.intro @ZD (And.intro @dL (And.intro @YM (And.intro @TJ (And.intro @Sl (And.intro @RX (And.intro @SJ (And.intro @Qt (And.intro @RV (And.intro @Q5 (And.intro @Q9 (And.intro @Rv (And.intro @SW (And.intro @Nc (And.intro @ca (And.intro @eT (And.intro @ax (And.intro @RO (And.intro @SQ (And.intro @Sq (And.intro @TF (And.intro @Qw (And.intro @SY (And.intro @R2 (And.intro @Sx (And.intro @Qe (And.intro @Q7 (And.intro @NQ (And.intro @ZG (And.intro @dh (And.intro @qQ (And.intro @p6 (And.intro @qL (And.intro @qt (And.intro @pD (And.intro @qq (And.intro @qM (And.intro @qG (And.intro @jU (And.intro @gM (And.intro @iM (And.intro @gG (And.intro @iS (And.intro @iF (And.intro @jR (And.intro @lV (And.intro @gj (And.intro @lZ (And.intro @lg (And.intro @kq (And.intro @kQ (And.intro @gF (And.intro @gc (And.intro @jE (And.intro @gk (And.intro @iU (And.intro @kY (And.intro @lK (@j4)))))))))))))))))))))))))))))))))))))))))))))))))))))))))))))))))))))))))))))))))))))))))))))))))))
theorem pK:type_of% (And.intro @lQ (And.intro @gv (And.intro @kc (And.intro @jo (And.intro @mB (And.intro @jz (And.intro @k9 (And.intro @jK (And.intro @k7 (And.intro @jT (And.intro @kr (And.intro @lW (And.intro @j6 (And.intro @kz (And.intro @jk (And.intro @il (And.intro @kM (And.intro @i6 (And.intro @lU (And.intro @lO (And.intro @jQ (And.intro @k8 (And.intro @iV (And.intro @gm (And.intro @j8 (And.intro @jN (And.intro @lf (And.intro @gh (And.intro @iR (And.intro @iW (And.intro @hJ (And.intro @iQ (And.intro @kL (And.intro @mF (And.intro @lq (And.intro @iT (And.intro @jS (And.intro @gY (And.intro @lu (And.intro @kl (And.intro @jf (And.intro @ja (And.intro @jl (And.intro @gu (And.intro @lS (And.intro @jt (And.intro @ik (And.intro @iY (And.intro @lB (And.intro @gK (And.intro @kv (And.intro @lh (And.intro @hU (And.intro @iu (And.intro @mK (And.intro @mM (And.intro @kB (And.intro @k6 (And.intro @j7 (And.intro @lL (And.intro @jv (And.intro @gX (And.intro @lH (And.intro @mJ (And.intro @mO (And.intro @gi (And.intro @ji (And.intro @l6 (And.intro @YS (And.intro @dU (And.intro @Y6 (And.intro @cG (And.intro @bB (And.intro @bg (And.intro @aX (And.intro @ar (And.intro @ZP (And.intro @Z1 (And.intro @Y9 (And.intro @bn (And.intro @eG (And.intro @YL (And.intro @dS (And.intro @aP (And.intro @dK (And.intro @c4 (And.intro @ZY (And.intro @Zq (And.intro @Yp (And.intro @bV (And.intro @Zf (And.intro @Z3 (And.intro @Ya (And.intro @cu (And.intro @ct (And.intro @dF (And.intro @Zp (And.intro @bL (And.intro @cH (@Yx)))))))))))))))))))))))))))))))))))))))))))))))))))))))))))))))))))))))))))))))))))))))))))))))))))):=And.intro @lQ (And.intro @gv (And.intro @kc (And.intro @jo (And.intro @mB (And.intro @jz (And.intro @k9 (And.intro @jK (And.intro @k7 (And.intro @jT (And.intro @kr (And.intro @lW (And.intro @j6 (And.intro @kz (And.intro @jk (And.intro @il (And.intro @kM (And.intro @i6 (And.intro @lU (And.intro @lO (And.intro @jQ (And.intro @k8 (And.intro @iV (And.intro @gm (And.intro @j8 (And.intro @jN (And.intro @lf (And.intro @gh (And.intro @iR (And.intro @iW (And.intro @hJ (And.intro @iQ (And.intro @kL (And.intro @mF (And.intro @lq (And.intro @iT (And.intro @jS (And.intro @gY (And.intro @lu (And.intro @kl (And.intro @jf (And.intro @ja (And.intro @jl (And.intro @gu (And.intro @lS (And.intro @jt (And.intro @ik (And.intro @iY (And.intro @lB (And.intro @gK (And.intro @kv (And.intro @lh (And.intro @hU (And.intro @iu (And.intro @mK (And.intro @mM (And.intro @kB (And.intro @k6 (And.intro @j7 (And.intro @lL (And.intro @jv (And.intro @gX (And.intro @lH (And.intro @mJ (And.intro @mO (And.intro @gi (And.intro @ji (And.intro @l6 (And.intro @YS (And.intro @dU (And.intro @Y6 (And.intro @cG (And.intro @bB (And.intro @bg (And.intro @aX (And.intro @ar (And.intro @ZP (And.intro @Z1 (And.intro @Y9 (And.intro @bn (And.intro @eG (And.intro @YL (And.intro @dS (And.intro @aP (And.intro @dK (And.intro @c4 (And.intro @ZY (And.intro @Zq (And.intro @Yp (And.intro @bV (And.intro @Zf (And.intro @Z3 (And.intro @Ya (And.intro @cu (And.intro @ct (And.intro @dF (And.intro @Zp (And.intro @bL (And.intro @cH (@Yx)))))))))))))))))))))))))))))))))))))))))))))))))))))))))))))))))))))))))))))))))))))))))))))))))))
theorem qB:type_of% (And.intro @Yt (And.intro @ZQ (And.intro @br (And.intro @dj (And.intro @ZN (And.intro @Zs (And.intro @eE (And.intro @dT (And.intro @Zc (And.intro @ZH (And.intro @Ze (And.intro @b8 (And.intro @YY (And.intro @cw (And.intro @cE (And.intro @bU (And.intro @cf (And.intro @cp (And.intro @cX (And.intro @cy (And.intro @cJ (And.intro @dw (And.intro @cr (And.intro @dZ (And.intro @dv (And.intro @dV (And.intro @cV (And.intro @ZE (And.intro @cO (And.intro @Zg (And.intro @aj (And.intro @YX (And.intro @Yi (And.intro @ZM (And.intro @dO (And.intro @aM (And.intro @bb (And.intro @Y4 (And.intro @Zd (And.intro @p7 (And.intro @qJ (And.intro @jc (And.intro @bX (And.intro @ak (And.intro @Z5 (And.intro @ZK (And.intro @Zx (And.intro @bp (And.intro @eC (And.intro @Yy (And.intro @ae (And.intro @bj (And.intro @Zb (And.intro @Yl (And.intro @bJ (And.intro @Yq (And.intro @az (And.intro @aF (And.intro @Zn (And.intro @bt (And.intro @Y0 (And.intro @dm (And.intro @Za (And.intro @Ym (And.intro @Zv (And.intro @df (And.intro @ZJ (And.intro @Yh (And.intro @Tryz.underlying2 (And.intro @Tryz.underlying3 (And.intro @Tryz.underlying4 (And.intro @Tryz.underlying5 (And.intro @Tryz.underlying6 (And.intro @Tryz.underlying7 (And.intro @Tryz.underlying8 (And.intro @Tryz.underlying9 (And.intro @Tryz.underlying10 (And.intro @Tryz.underlying11 (And.intro @Tryz.underlying12 (And.intro @Tryz.underlying13 (And.intro @Tryz.underlying14 (And.intro @Tryz.underlying15 (And.intro @Tryz.underlying16 (And.intro @Tryz.underlying17 (And.intro @Tryz.underlying18 (And.intro @Tryz.underlying19 (And.intro @Tryz.underlying21 (And.intro @Tryz.underlying23 (And.intro @Tryz.underlying24 (And.intro @Tryz.underlying34 (And.intro @Tryz.underlying35 (And.intro @Tryz.underlying36 (And.intro @Tryz.underlying37 (And.intro @Tryz.underlying38 (And.intro @Tryz.underlying40 (And.intro @Tryz.underlying41 (And.intro @Tryz.underlying44 (And.intro @Tryz.underlying47 (And.intro @Tryz.underlying48 (@Tryz.underlying49)))))))))))))))))))))))))))))))))))))))))))))))))))))))))))))))))))))))))))))))))))))))))))))))))))):=And.intro @Yt (And.intro @ZQ (And.intro @br (And.intro @dj (And.intro @ZN (And.intro @Zs (And.intro @eE (And.intro @dT (And.intro @Zc (And.intro @ZH (And.intro @Ze (And.intro @b8 (And.intro @YY (And.intro @cw (And.intro @cE (And.intro @bU (And.intro @cf (And.intro @cp (And.intro @cX (And.intro @cy (And.intro @cJ (And.intro @dw (And.intro @cr (And.intro @dZ (And.intro @dv (And.intro @dV (And.intro @cV (And.intro @ZE (And.intro @cO (And.intro @Zg (And.intro @aj (And.intro @YX (And.intro @Yi (And.intro @ZM (And.intro @dO (And.intro @aM (And.intro @bb (And.intro @Y4 (And.intro @Zd (And.intro @p7 (And.intro @qJ (And.intro @jc (And.intro @bX (And.intro @ak (And.intro @Z5 (And.intro @ZK (And.intro @Zx (And.intro @bp (And.intro @eC (And.intro @Yy (And.intro @ae (And.intro @bj (And.intro @Zb (And.intro @Yl (And.intro @bJ (And.intro @Yq (And.intro @az (And.intro @aF (And.intro @Zn (And.intro @bt (And.intro @Y0 (And.intro @dm (And.intro @Za (And.intro @Ym (And.intro @Zv (And.intro @df (And.intro @ZJ (And.intro @Yh (And.intro @Tryz.underlying2 (And.intro @Tryz.underlying3 (And.intro @Tryz.underlying4 (And.intro @Tryz.underlying5 (And.intro @Tryz.underlying6 (And.intro @Tryz.underlying7 (And.intro @Tryz.underlying8 (And.intro @Tryz.underlying9 (And.intro @Tryz.underlying10 (And.intro @Tryz.underlying11 (And.intro @Tryz.underlying12 (And.intro @Tryz.underlying13 (And.intro @Tryz.underlying14 (And.intro @Tryz.underlying15 (And.intro @Tryz.underlying16 (And.intro @Tryz.underlying17 (And.intro @Tryz.underlying18 (And.intro @Tryz.underlying19 (And.intro @Tryz.underlying21 (And.intro @Tryz.underlying23 (And.intro @Tryz.underlying24 (And.intro @Tryz.underlying34 (And.intro @Tryz.underlying35 (And.intro @Tryz.underlying36 (And.intro @Tryz.underlying37 (And.intro @Tryz.underlying38 (And.intro @Tryz.underlying40 (And.intro @Tryz.underlying41 (And.intro @Tryz.underlying44 (And.intro @Tryz.underlying47 (And.intro @Tryz.underlying48 (@Tryz.underlying49)))))))))))))))))))))))))))))))))))))))))))))))))))))))))))))))))))))))))))))))))))))))))))))))))))
theorem ot:type_of% (And.intro @Tryz.underlying50 (And.intro @Tryz.underlying51 (And.intro @Tryz.underlying53 (And.intro @Tryz.underlying54 (And.intro @Tryz.underlying55 (And.intro @Tryz.underlying64 (And.intro @Tryz.underlying65 (And.intro @Tryz.underlying66 (And.intro @Tryz.underlying67 (And.intro @Tryz.underlying68 (And.intro @Tryz.underlying94 (And.intro @Tryz.underlying95 (And.intro @Tryz.underlying97 (And.intro @Tryz.underlying99 (And.intro @Tryz.underlying108 (And.intro @Tryz.underlying109 (And.intro @Tryz.underlying110 (And.intro @Tryz.underlying112 (And.intro @Tryz.underlying119 (And.intro @Tryz.underlying124 (And.intro @Tryz.underlying125 (And.intro @Tryz.underlying130 (And.intro @Tryz.underlying132 (And.intro @Tryz.underlying135 (And.intro @Tryz.underlying136 (And.intro @Tryz.underlying137 (And.intro @Tryz.underlying138 (And.intro @Tryz.underlying141 (And.intro @Tryz.underlying142 (And.intro @Tryz.underlying143 (And.intro @Tryz.underlying149 (And.intro @Tryz.underlying150 (And.intro @Tryz.underlying154 (And.intro @Tryz.underlying155 (And.intro @Tryz.underlying159 (And.intro @Tryz.underlying160 (And.intro @Tryz.underlying161 (And.intro @Tryz.underlying162 (And.intro @Tryz.underlying163 (And.intro @Tryz.underlying164 (And.intro @Tryz.underlying165 (And.intro @Tryz.underlying167 (And.intro @Tryz.underlying168 (And.intro @Tryz.underlying169 (And.intro @Tryz.underlying170 (And.intro @Tryz.results2 (And.intro @Tryz.results3 (And.intro @Tryz.results4 (And.intro @Tryz.results5 (And.intro @Tryz.results6 (And.intro @Tryz.results7 (And.intro @Tryz.results8 (And.intro @Tryz.results9 (And.intro @Tryz.results10 (And.intro @Tryz.results11 (And.intro @Tryz.results12 (And.intro @Tryz.results13 (And.intro @Tryz.results14 (And.intro @Tryz.results15 (And.intro @Tryz.results16 (And.intro @Tryz.results17 (And.intro @Tryz.results18 (And.intro @Tryz.results19 (And.intro @Tryz.results20 (And.intro @Tryz.results21 (And.intro @Tryz.results22 (And.intro @Tryz.results23 (And.intro @Tryz.results24 (And.intro @Tryz.results25 (And.intro @Tryz.results26 (And.intro @Tryz.results27 (And.intro @Tryz.results28 (And.intro @Tryz.results29 (And.intro @Tryz.results30 (And.intro @Tryz.results31 (And.intro @Tryz.results32 (And.intro @Tryz.results33 (And.intro @Tryz.results34 (And.intro @Tryz.results35 (And.intro @Tryz.results36 (And.intro @Tryz.results37 (And.intro @Tryz.results38 (And.intro @Tryz.results39 (And.intro @Tryz.results40 (And.intro @Tryz.results41 (And.intro @Tryz.results42 (And.intro @Tryz.results43 (And.intro @Tryz.results44 (And.intro @Tryz.results45 (And.intro @Tryz.results46 (And.intro @Tryz.results47 (And.intro @Tryz.results48 (And.intro @Tryz.results49 (And.intro @Tryz.results50 (And.intro @Tryz.results51 (And.intro @Tryz.results52 (And.intro @Tryz.results53 (And.intro @Tryz.results54 (And.intro @Tryz.results55 (@Tryz.results56)))))))))))))))))))))))))))))))))))))))))))))))))))))))))))))))))))))))))))))))))))))))))))))))))))):=And.intro @Tryz.underlying50 (And.intro @Tryz.underlying51 (And.intro @Tryz.underlying53 (And.intro @Tryz.underlying54 (And.intro @Tryz.underlying55 (And.intro @Tryz.underlying64 (And.intro @Tryz.underlying65 (And.intro @Tryz.underlying66 (And.intro @Tryz.underlying67 (And.intro @Tryz.underlying68 (And.intro @Tryz.underlying94 (And.intro @Tryz.underlying95 (And.intro @Tryz.underlying97 (And.intro @Tryz.underlying99 (And.intro @Tryz.underlying108 (And.intro @Tryz.underlying109 (And.intro @Tryz.underlying110 (And.intro @Tryz.underlying112 (And.intro @Tryz.underlying119 (And.intro @Tryz.underlying124 (And.intro @Tryz.underlying125 (And.intro @Tryz.underlying130 (And.intro @Tryz.underlying132 (And.intro @Tryz.underlying135 (And.intro @Tryz.underlying136 (And.intro @Tryz.underlying137 (And.intro @Tryz.underlying138 (And.intro @Tryz.underlying141 (And.intro @Tryz.underlying142 (And.intro @Tryz.underlying143 (And.intro @Tryz.underlying149 (And.intro @Tryz.underlying150 (And.intro @Tryz.underlying154 (And.intro @Tryz.underlying155 (And.intro @Tryz.underlying159 (And.intro @Tryz.underlying160 (And.intro @Tryz.underlying161 (And.intro @Tryz.underlying162 (And.intro @Tryz.underlying163 (And.intro @Tryz.underlying164 (And.intro @Tryz.underlying165 (And.intro @Tryz.underlying167 (And.intro @Tryz.underlying168 (And.intro @Tryz.underlying169 (And.intro @Tryz.underlying170 (And.intro @Tryz.results2 (And.intro @Tryz.results3 (And.intro @Tryz.results4 (And.intro @Tryz.results5 (And.intro @Tryz.results6 (And.intro @Tryz.results7 (And.intro @Tryz.results8 (And.intro @Tryz.results9 (And.intro @Tryz.results10 (And.intro @Tryz.results11 (And.intro @Tryz.results12 (And.intro @Tryz.results13 (And.intro @Tryz.results14 (And.intro @Tryz.results15 (And.intro @Tryz.results16 (And.intro @Tryz.results17 (And.intro @Tryz.results18 (And.intro @Tryz.results19 (And.intro @Tryz.results20 (And.intro @Tryz.results21 (And.intro @Tryz.results22 (And.intro @Tryz.results23 (And.intro @Tryz.results24 (And.intro @Tryz.results25 (And.intro @Tryz.results26 (And.intro @Tryz.results27 (And.intro @Tryz.results28 (And.intro @Tryz.results29 (And.intro @Tryz.results30 (And.intro @Tryz.results31 (And.intro @Tryz.results32 (And.intro @Tryz.results33 (And.intro @Tryz.results34 (And.intro @Tryz.results35 (And.intro @Tryz.results36 (And.intro @Tryz.results37 (And.intro @Tryz.results38 (And.intro @Tryz.results39 (And.intro @Tryz.results40 (And.intro @Tryz.results41 (And.intro @Tryz.results42 (And.intro @Tryz.results43 (And.intro @Tryz.results44 (And.intro @Tryz.results45 (And.intro @Tryz.results46 (And.intro @Tryz.results47 (And.intro @Tryz.results48 (And.intro @Tryz.results49 (And.intro @Tryz.results50 (And.intro @Tryz.results51 (And.intro @Tryz.results52 (And.intro @Tryz.results53 (And.intro @Tryz.results54 (And.intro @Tryz.results55 (@Tryz.results56)))))))))))))))))))))))))))))))))))))))))))))))))))))))))))))))))))))))))))))))))))))))))))))))))))
theorem qg:type_of% (And.intro @Tryz.results57 (And.intro @Tryz.results58 (And.intro @Tryz.results59 (And.intro @Tryz.results60 (And.intro @Tryz.results61 (And.intro @Tryz.results62 (And.intro @Tryz.results63 (And.intro @Tryz.results64 (And.intro @Tryz.results65 (And.intro @Tryz.results66 (And.intro @Tryz.results67 (And.intro @Tryz.results68 (And.intro @Tryz.results69 (And.intro @Tryz.results70 (And.intro @Tryz.results71 (And.intro @Tryz.results72 (And.intro @Tryz.results73 (And.intro @Tryz.results74 (And.intro @Tryz.results75 (And.intro @Tryz.results76 (And.intro @Tryz.results77 (And.intro @Tryz.results78 (And.intro @Tryz.results79 (And.intro @Tryz.results80 (And.intro @Tryz.results81 (And.intro @Tryz.results82 (And.intro @Tryz.results83 (And.intro @Tryz.results84 (And.intro @Tryz.results85 (And.intro @Tryz.results86 (And.intro @Tryz.results87 (And.intro @Tryz.results88 (And.intro @Tryz.results89 (And.intro @Tryz.results90 (And.intro @Tryz.results91 (And.intro @Tryz.results92 (And.intro @Tryz.results93 (And.intro @Tryz.results94 (And.intro @Tryz.results95 (And.intro @Tryz.results97 (And.intro @Tryz.results98 (And.intro @Tryz.results99 (And.intro @Tryz.results100 (And.intro @Tryz.results101 (And.intro @Tryz.results102 (And.intro @Tryz.results103 (And.intro @Tryz.results104 (And.intro @Tryz.results105 (And.intro @Tryz.results106 (And.intro @Tryz.results107 (And.intro @Tryz.results108 (And.intro @Tryz.results109 (And.intro @Tryz.results110 (And.intro @Tryz.results111 (And.intro @Tryz.results112 (And.intro @Tryz.results113 (And.intro @Tryz.results114 (And.intro @Tryz.results115 (And.intro @Tryz.results116 (And.intro @Tryz.results117 (And.intro @Tryz.results118 (And.intro @Tryz.results119 (And.intro @Tryz.results120 (And.intro @Tryz.results121 (And.intro @Tryz.results122 (And.intro @Tryz.results123 (And.intro @Tryz.results125 (And.intro @Tryz.results126 (And.intro @Tryz.results128 (And.intro @Tryz.results129 (And.intro @Tryz.results130 (And.intro @Tryz.results131 (And.intro @Tryz.results132 (And.intro @Tryz.results133 (And.intro @Tryz.results134 (And.intro @Tryz.results135 (And.intro @Tryz.results136 (And.intro @Tryz.results137 (And.intro @Tryz.results138 (And.intro @Tryz.results139 (And.intro @Tryz.results140 (And.intro @Tryz.results141 (And.intro @Tryz.results142 (And.intro @Tryz.results143 (And.intro @Tryz.results144 (And.intro @Tryz.results145 (And.intro @Tryz.results146 (And.intro @Tryz.results147 (And.intro @Tryz.results148 (And.intro @Tryz.results149 (And.intro @Tryz.results150 (And.intro @Tryz.results151 (And.intro @Tryz.results152 (And.intro @Tryz.results153 (And.intro @Tryz.results154 (And.intro @Tryz.results155 (And.intro @Tryz.results156 (And.intro @Tryz.results157 (And.intro @Tryz.results158 (@Tryz.results159)))))))))))))))))))))))))))))))))))))))))))))))))))))))))))))))))))))))))))))))))))))))))))))))))))):=And.intro @Tryz.results57 (And.intro @Tryz.results58 (And.intro @Tryz.results59 (And.intro @Tryz.results60 (And.intro @Tryz.results61 (And.intro @Tryz.results62 (And.intro @Tryz.results63 (And.intro @Tryz.results64 (And.intro @Tryz.results65 (And.intro @Tryz.results66 (And.intro @Tryz.results67 (And.intro @Tryz.results68 (And.intro @Tryz.results69 (And.intro @Tryz.results70 (And.intro @Tryz.results71 (And.intro @Tryz.results72 (And.intro @Tryz.results73 (And.intro @Tryz.results74 (And.intro @Tryz.results75 (And.intro @Tryz.results76 (And.intro @Tryz.results77 (And.intro @Tryz.results78 (And.intro @Tryz.results79 (And.intro @Tryz.results80 (And.intro @Tryz.results81 (And.intro @Tryz.results82 (And.intro @Tryz.results83 (And.intro @Tryz.results84 (And.intro @Tryz.results85 (And.intro @Tryz.results86 (And.intro @Tryz.results87 (And.intro @Tryz.results88 (And.intro @Tryz.results89 (And.intro @Tryz.results90 (And.intro @Tryz.results91 (And.intro @Tryz.results92 (And.intro @Tryz.results93 (And.intro @Tryz.results94 (And.intro @Tryz.results95 (And.intro @Tryz.results97 (And.intro @Tryz.results98 (And.intro @Tryz.results99 (And.intro @Tryz.results100 (And.intro @Tryz.results101 (And.intro @Tryz.results102 (And.intro @Tryz.results103 (And.intro @Tryz.results104 (And.intro @Tryz.results105 (And.intro @Tryz.results106 (And.intro @Tryz.results107 (And.intro @Tryz.results108 (And.intro @Tryz.results109 (And.intro @Tryz.results110 (And.intro @Tryz.results111 (And.intro @Tryz.results112 (And.intro @Tryz.results113 (And.intro @Tryz.results114 (And.intro @Tryz.results115 (And.intro @Tryz.results116 (And.intro @Tryz.results117 (And.intro @Tryz.results118 (And.intro @Tryz.results119 (And.intro @Tryz.results120 (And.intro @Tryz.results121 (And.intro @Tryz.results122 (And.intro @Tryz.results123 (And.intro @Tryz.results125 (And.intro @Tryz.results126 (And.intro @Tryz.results128 (And.intro @Tryz.results129 (And.intro @Tryz.results130 (And.intro @Tryz.results131 (And.intro @Tryz.results132 (And.intro @Tryz.results133 (And.intro @Tryz.results134 (And.intro @Tryz.results135 (And.intro @Tryz.results136 (And.intro @Tryz.results137 (And.intro @Tryz.results138 (And.intro @Tryz.results139 (And.intro @Tryz.results140 (And.intro @Tryz.results141 (And.intro @Tryz.results142 (And.intro @Tryz.results143 (And.intro @Tryz.results144 (And.intro @Tryz.results145 (And.intro @Tryz.results146 (And.intro @Tryz.results147 (And.intro @Tryz.results148 (And.intro @Tryz.results149 (And.intro @Tryz.results150 (And.intro @Tryz.results151 (And.intro @Tryz.results152 (And.intro @Tryz.results153 (And.intro @Tryz.results154 (And.intro @Tryz.results155 (And.intro @Tryz.results156 (And.intro @Tryz.results157 (And.intro @Tryz.results158 (@Tryz.results159)))))))))))))))))))))))))))))))))))))))))))))))))))))))))))))))))))))))))))))))))))))))))))))))))))
theorem qh:type_of% (And.intro @Tryz.results160 (And.intro @Tryz.results161 (And.intro @Tryz.results162 (And.intro @Tryz.results163 (And.intro @Tryz.results164 (And.intro @Tryz.results165 (And.intro @Tryz.results166 (And.intro @Tryz.results167 (And.intro @Tryz.results168 (And.intro @Tryz.results169 (And.intro @Tryz.results170 (And.intro @Tryz.results171 (@Tryz.results196))))))))))))):=And.intro @Tryz.results160 (And.intro @Tryz.results161 (And.intro @Tryz.results162 (And.intro @Tryz.results163 (And.intro @Tryz.results164 (And.intro @Tryz.results165 (And.intro @Tryz.results166 (And.intro @Tryz.results167 (And.intro @Tryz.results168 (And.intro @Tryz.results169 (And.intro @Tryz.results170 (And.intro @Tryz.results171 (@Tryz.results196))))))))))))
theorem rV:type_of% (And.intro @pc (And.intro @ox (And.intro @qd (And.intro @pO (And.intro @pK (And.intro @qB (And.intro @ot (And.intro @qg (@qh))))))))):=And.intro @pc (And.intro @ox (And.intro @qd (And.intro @pO (And.intro @pK (And.intro @qB (And.intro @ot (And.intro @qg (@qh))))))))
end Go.Proofs.YtfphceknmgadgaaGreatDoor
