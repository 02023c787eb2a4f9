/-
Regions that draw their order and only read: the equations of their evaluator, for simp.
Conditions: none. Generic: it speaks of no program.
-/
import Derived.Test.YtfphceknmgadgaaDoorVmDraw
set_option linter.unusedSimpArgs false
set_option linter.unusedVariables false
namespace Go.Vm
section
variable (P : Program) (n : Nat) (sp : Bool) (all : List Oper) (m : Nat) (ρ : Env) (h : Heap) (K : Env → Prop)
variable (dst : Option Nat) (ty : TypeId) (pos : String) (aft : Array Edge) (gd : Option (Nat × Bool)) (rest : List Oper)
theorem semiG_nil : semiG sp [] = true := rfl
theorem semiG_cons (op : Op) : semiG sp (⟨dst, op, ty, pos, aft, gd⟩ :: rest) = (semiOp sp op && semiG sp rest) := rfl
theorem semi_move (x : Operand) : semiOp sp (.move x) = true := rfl
theorem semi_assign (x : Operand) : semiOp sp (.assign x) = false := rfl
theorem semi_pick (x a b : Operand) : semiOp sp (.pick x a b) = true := rfl
theorem semi_build (t : TypeId) (ps : List (Nat × Operand)) : semiOp sp (.build t ps.toArray) = !sp := rfl
theorem semi_load (t : TypeId) (x : Operand) : semiOp sp (.load t x) = !sp := rfl
theorem semi_nilCheck (x : Operand) : semiOp sp (.nilCheck x) = !sp := rfl
theorem semi_binOp (op : BinOp) (t : TypeId) (x y : Operand) (t' : TypeId) : semiOp sp (.binOp op t x y t') = pureB op := by cases op <;> rfl
theorem semi_unOp (op : UnOp) (t : TypeId) (x : Operand) : semiOp sp (.unOp op t x) = true := rfl
theorem semi_makeInterface (t : TypeId) (x : Operand) : semiOp sp (.makeInterface t x) = false := rfl
theorem semi_fieldAddr (t : TypeId) (x : Operand) (i : Nat) : semiOp sp (.fieldAddr t x i) = !sp := rfl
theorem semi_field (t : TypeId) (x : Operand) (i : Nat) : semiOp sp (.field t x i) = !sp := rfl
theorem semi_indexAddr (t : TypeId) (x i : Operand) : semiOp sp (.indexAddr t x i) = false := rfl
theorem semi_index (t : TypeId) (x i : Operand) : semiOp sp (.index t x i) = false := rfl
theorem semi_extract (x : Operand) (i : Nat) : semiOp sp (.extract x i) = true := rfl
theorem semi_slice (t : TypeId) (x : Operand) (lo hi : Option Operand) : semiOp sp (.slice t x lo hi none) = false := rfl
theorem semi_len (x : Operand) (t : TypeId) : semiOp sp (.call ⟨.builtin .len, #[x], #[t]⟩) = true := rfl
def qcv (u : Option TypeDesc) : Bool := match u with | some (.int _) => true | _ => false
theorem qcv_int (k : IntKind) : qcv (some (.int k)) = true := rfl
theorem semi_convert (s d : TypeId) (x : Operand) : semiOp sp (.convert s d x) = false := rfl
theorem semi_call (f : Operand) (xs : Array Operand) (ts : Array TypeId) : semiOp sp (.call ⟨.value f, xs, ts⟩) = false := rfl
end
theorem vmR : type_of% (An @semiG_nil (An @semiG_cons (An @semi_move (An @semi_assign (An @semi_pick (An @semi_build (An @semi_load (An @semi_nilCheck (An @semi_binOp (An @semi_unOp (An @semi_makeInterface (An @semi_fieldAddr (An @semi_field (An @semi_indexAddr (An @semi_index (An @semi_extract (An @semi_slice (An @semi_len (An @semi_convert (An @semi_call @qcv_int)))))))))))))))))))) := ⟨@semiG_nil, @semiG_cons, @semi_move, @semi_assign, @semi_pick, @semi_build, @semi_load, @semi_nilCheck, @semi_binOp, @semi_unOp, @semi_makeInterface, @semi_fieldAddr, @semi_field, @semi_indexAddr, @semi_index, @semi_extract, @semi_slice, @semi_len, @semi_convert, @semi_call, @qcv_int⟩
end Go.Vm
