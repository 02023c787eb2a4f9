/-
Regions that draw their order and only read: the equations of their evaluator, for simp.
Conditions: none. Generic: it speaks of no program.
-/
import Derived.Test.YtfphceknmgadgaaGreatDoorVmDraw
set_option linter.unusedSimpArgs false
set_option linter.unusedVariables false
namespace Go.Vm
section
variable (P:Program) (n:Nat) (sp:Bool) (all:List Oper) (m:Nat) (ρ:Bc) (h:AX) (K:Bc→Prop)
variable (dst:Option Nat) (ty:TypeId) (pos:String) (aft:Array Edge) (gd:Option (Nat×Bool)) (rest:List Oper)
theorem JO:GP sp []=true:=rfl
theorem HE(op:Op):GP sp (⟨dst,op,ty,pos,aft,gd⟩::rest)=(Dm sp op&&GP sp rest):=rfl
theorem Qg(x:Operand):Dm sp (.move x)=true:=rfl
theorem L7(x:Operand):Dm sp (.assign x)=false:=rfl
theorem Rj(x a b:Operand):Dm sp (.pick x a b)=true:=rfl
theorem Na(t:TypeId)(ps:List (Nat×Operand)):Dm sp (.build t ps.toArray)= !sp:=rfl
theorem Rf(t:TypeId)(x:Operand):Dm sp (.load t x)= !sp:=rfl
theorem Jf(x:Operand):Dm sp (.nilCheck x)= !sp:=rfl
theorem Ok(op:BinOp)(t:TypeId)(x y:Operand)(t':TypeId):Dm sp (.binOp op t x y t')=Fy op:=by cases op<;>rfl
theorem RH(op:UnOp)(t:TypeId)(x:Operand):Dm sp (.unOp op t x)=true:=rfl
theorem Ft(t:TypeId)(x:Operand):Dm sp (.makeInterface t x)=false:=rfl
theorem Hv(t:TypeId)(x:Operand)(i:Nat):Dm sp (.fieldAddr t x i)= !sp:=rfl
theorem Ng(t:TypeId)(x:Operand)(i:Nat):Dm sp (.field t x i)= !sp:=rfl
theorem Hr(t:TypeId)(x i:Operand):Dm sp (.indexAddr t x i)=false:=rfl
theorem Oa(t:TypeId)(x i:Operand):Dm sp (.index t x i)=false:=rfl
theorem KY(x:Operand)(i:Nat):Dm sp (.extract x i)=true:=rfl
theorem NT(t:TypeId)(x:Operand)(lo hi:Option Operand):Dm sp (.slice t x lo hi none)=false:=rfl
theorem VR(x:Operand)(t:TypeId):Dm sp (.call ⟨.builtin .len,#[x],#[t]⟩)=true:=rfl
def qcv(u:Option TypeDesc):Bool:=match u with|some (.int _)=>true|_=>false
theorem ZJ(k:IntKind):qcv (some (.int k))=true:=rfl
theorem Kr(s d:TypeId)(x:Operand):Dm sp (.convert s d x)=false:=rfl
theorem Rs(f:Operand)(xs:Array Operand)(ts:Array TypeId):Dm sp (.call ⟨.value f,xs,ts⟩)=false:=rfl
end
theorem vmR:type_of% (An @JO (An @HE (An @Qg (An @L7 (An @Rj (An @Na (An @Rf (An @Jf (An @Ok (An @RH (An @Ft (An @Hv (An @Ng (An @Hr (An @Oa (An @KY (An @NT (An @VR (An @Kr (An @Rs @ZJ)))))))))))))))))))):=⟨@JO,@HE,@Qg,@L7,@Rj,@Na,@Rf,@Jf,@Ok,@RH,@Ft,@Hv,@Ng,@Hr,@Oa,@KY,@NT,@VR,@Kr,@Rs,@ZJ⟩
end Go.Vm
