/-
Regions that draw their order and only read: the equations of their evaluator, for simp.
Conditions: none. Generic: it speaks of no program.
-/
import Derived.Test.YtfphceknmgadgaaGreatDoorVmDraw
set_option linter.unusedSimpArgs false
set_option linter.unusedVariables false
namespace Go.Vm
section
variable (P:Program) (n:Nat) (sp:Bool) (all:List Oper) (m:Nat) (ρ:Ba) (h:AY) (K:Ba→Prop)
variable (dst:Option Nat) (ty:TypeId) (pos:String) (aft:Array Edge) (gd:Option (Nat×Bool)) (rest:List Oper)
theorem Gv:FF sp []=true:=rfl
theorem F1(op:Op):FF sp (⟨dst,op,ty,pos,aft,gd⟩::rest)=(DE sp op&&FF sp rest):=rfl
theorem Ni(x:Operand):DE sp (.move x)=true:=rfl
theorem Kl(x:Operand):DE sp (.assign x)=false:=rfl
theorem Nq(x a b:Operand):DE sp (.pick x a b)=true:=rfl
theorem Lk(t:TypeId)(ps:List (Nat×Operand)):DE sp (.build t ps.toArray)= !sp:=rfl
theorem Ou(t:TypeId)(x:Operand):DE sp (.load t x)= !sp:=rfl
theorem HA(x:Operand):DE sp (.nilCheck x)= !sp:=rfl
theorem Lc(op:BinOp)(t:TypeId)(x y:Operand)(t':TypeId):DE sp (.binOp op t x y t')=E6 op:=by cases op<;>rfl
theorem No(op:UnOp)(t:TypeId)(x:Operand):DE sp (.unOp op t x)=true:=rfl
theorem E0(t:TypeId)(x:Operand):DE sp (.makeInterface t x)=false:=rfl
theorem GP(t:TypeId)(x:Operand)(i:Nat):DE sp (.fieldAddr t x i)= !sp:=rfl
theorem LX(t:TypeId)(x:Operand)(i:Nat):DE sp (.field t x i)= !sp:=rfl
theorem GR(t:TypeId)(x i:Operand):DE sp (.indexAddr t x i)=false:=rfl
theorem Lh(t:TypeId)(x i:Operand):DE sp (.index t x i)=false:=rfl
theorem JC(x:Operand)(i:Nat):DE sp (.extract x i)=true:=rfl
theorem L3(t:TypeId)(x:Operand)(lo hi:Option Operand):DE sp (.slice t x lo hi none)=false:=rfl
theorem SU(x:Operand)(t:TypeId):DE sp (.call ⟨.builtin .len,#[x],#[t]⟩)=true:=rfl
def rY(u:Option TypeDesc):Bool:=match u with|some (.int _)=>true|_=>false
theorem UM(k:IntKind):rY (some (.int k))=true:=rfl
theorem Ji(s d:TypeId)(x:Operand):DE sp (.convert s d x)=false:=rfl
theorem N5(f:Operand)(xs:Array Operand)(ts:Array TypeId):DE sp (.call ⟨.value f,xs,ts⟩)=false:=rfl
end
theorem rR:type_of% (An @Gv (An @F1 (An @Ni (An @Kl (An @Nq (An @Lk (An @Ou (An @HA (An @Lc (An @No (An @E0 (An @GP (An @LX (An @GR (An @Lh (An @JC (An @L3 (An @SU (An @Ji (An @N5 @UM)))))))))))))))))))):=⟨@Gv,@F1,@Ni,@Kl,@Nq,@Lk,@Ou,@HA,@Lc,@No,@E0,@GP,@LX,@GR,@Lh,@JC,@L3,@SU,@Ji,@N5,@UM⟩
end Go.Vm
