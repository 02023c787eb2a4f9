/-
Regions that draw their order and only read: the equations of their evaluator, for simp.
Conditions: none. Generic: it speaks of no program.
-/
import Derived.Test.YtiholbpchhifiaaGreatDoorVmDraw
namespace Go.Vm
set_option linter.unusedSimpArgs false
set_option linter.unusedVariables false
section
variable (P : Program) (n : Nat) (sp : Bool) (all : List Oper) (m : Nat) (ρ : Env) (h : Heap) (K : Env → Prop)
variable (dst : Option Nat) (ty : TypeId) (pos : String) (aft : Array Edge) (gd : Option (Nat × Bool)) (rest : List Oper)
theorem denQ_nil (cur : Option (Nat × Bool)) : denQ P n sp all h (m + 1) cur [] ρ K = K ρ := rfl
theorem denQ_plain (op : Op) : denQ P n sp all h (m + 1) none (⟨dst, op, ty, pos, aft, none⟩ :: rest) ρ K =
    stepQ P n ⟨dst, op, ty, pos, aft, none⟩ ρ h (fun ρ' => denQ P n sp all h m none rest ρ' K) := by simp [denQ]
theorem denQ_in (op : Op) (g : Nat × Bool) : denQ P n sp all h (m + 1) (some g) (⟨dst, op, ty, pos, aft, some g⟩ :: rest) ρ K =
    stepQ P n ⟨dst, op, ty, pos, aft, some g⟩ ρ h (fun ρ' => denQ P n sp all h m (some g) rest ρ' K) := by simp [denQ]
def gpQ (cur : Option (Nat × Bool)) (j : Nat) (want : Bool) (g after : List Oper) (s : Nat) (b : Bool) (pure : Bool) : Prop :=
  match pure, after with
  | true, p :: after' => match closes want s p.op with
    | some y => denQ P n sp all h m (some (j, want)) g ρ (fun ρ' => bnd (evO ρ' y) fun c => joinK n p.dst want b c (hid g ρ) fun ρ'' => denQ P n sp all h m cur after' ρ'' K)
    | none => False
  | _, after => ifB (b == want) (denQ P n sp all h m (some (j, want)) g ((s, some (.bool want)) :: ρ) (fun ρ' => denQ P n sp all h m cur after ρ' K)) (denQ P n sp all h m cur after (hid g ((s, some (.bool (!want))) :: ρ)) K)
@[congr] theorem gpQ_congr {P : Program} {n : Nat} {sp : Bool} {all : List Oper} {m : Nat} {ρ : Env} {h : Heap} {K : Env → Prop} {cur : Option (Nat × Bool)} {j : Nat} {want : Bool} {g g' after after' : List Oper} {s : Nat} {b pu pu' : Bool} (h1 : g = g') (h2 : after = after') (h3 : pu = pu') :
    gpQ P n sp all m ρ h K cur j want g after s b pu = gpQ P n sp all m ρ h K cur j want g' after' s b pu' := by rw [h1, h2, h3]
def gvQ (cur : Option (Nat × Bool)) (j : Nat) (want : Bool) (g after : List Oper) (s : Nat) (v : Value) : Prop :=
  match v with | .bool b => need (grpOk all s j want [] g = true) (gpQ P n sp all m ρ h K cur j want g after s b (semiG sp g)) | _ => False
theorem gvQ_bool (cur : Option (Nat × Bool)) (j : Nat) (want : Bool) (g after : List Oper) (s : Nat) (b : Bool) : gvQ P n sp all m ρ h K cur j want g after s (.bool b) =
    need (grpOk all s j want [] g = true) (gpQ P n sp all m ρ h K cur j want g after s b (semiG sp g)) := rfl
theorem denQ_grp (op : Op) (cur : Option (Nat × Bool)) (j : Nat) (want : Bool) (hne : ¬ some (j, want) = cur) : denQ P n sp all h (m + 1) cur (⟨dst, op, ty, pos, aft, some (j, want)⟩ :: rest) ρ K =
    bnd (slotOf all j) fun s => bnd (get ρ s) fun v => gvQ P n sp all m ρ h K cur j want
      (⟨dst, op, ty, pos, aft, some (j, want)⟩ :: grpOf cur rest) (aftOf cur rest) s v := by
  have h1 : grpOf cur (⟨dst, op, ty, pos, aft, some (j, want)⟩ :: rest) = ⟨dst, op, ty, pos, aft, some (j, want)⟩ :: grpOf cur rest := by simp [grpOf, hne]
  have h2 : aftOf cur (⟨dst, op, ty, pos, aft, some (j, want)⟩ :: rest) = aftOf cur rest := by simp [aftOf, hne]
  rw [denQ, if_neg hne, h1, h2]
  congr 1
theorem denQ_grp0 (op : Op) (j : Nat) (want : Bool) : denQ P n sp all h (m + 1) none (⟨dst, op, ty, pos, aft, some (j, want)⟩ :: rest) ρ K =
    bnd (slotOf all j) fun s => bnd (get ρ s) fun v => gvQ P n sp all m ρ h K none j want
      (⟨dst, op, ty, pos, aft, some (j, want)⟩ :: grpOf none rest) (aftOf none rest) s v := denQ_grp P n sp all m ρ h K dst ty pos aft rest op none j want (by simp)
theorem gpQ_no (cur : Option (Nat × Bool)) (j : Nat) (want : Bool) (g after : List Oper) (s : Nat) (b : Bool) : gpQ P n sp all m ρ h K cur j want g after s b false =
    ifB (b == want) (denQ P n sp all h m (some (j, want)) g ((s, some (.bool want)) :: ρ) (fun ρ' => denQ P n sp all h m cur after ρ' K)) (denQ P n sp all h m cur after (hid g ((s, some (.bool (!want))) :: ρ)) K) := rfl
theorem gpQ_or (cur : Option (Nat × Bool)) (j : Nat) (g after : List Oper) (s : Nat) (b : Bool) (y : Operand) : gpQ P n sp all m ρ h K cur j false g (⟨dst, .pick (.tmp s) (.const (.bool true)) y, ty, pos, aft, gd⟩ :: after) s b true =
    denQ P n sp all h m (some (j, false)) g ρ (fun ρ' => bnd (evO ρ' y) fun c => joinK n dst false b c (hid g ρ) fun ρ'' => denQ P n sp all h m cur after ρ'' K) := by simp [gpQ, closes]
theorem gpQ_and (cur : Option (Nat × Bool)) (j : Nat) (g after : List Oper) (s : Nat) (b : Bool) (y : Operand) : gpQ P n sp all m ρ h K cur j true g (⟨dst, .pick (.tmp s) y (.const (.bool false)), ty, pos, aft, gd⟩ :: after) s b true =
    denQ P n sp all h m (some (j, true)) g ρ (fun ρ' => bnd (evO ρ' y) fun c => joinK n dst true b c (hid g ρ) fun ρ'' => denQ P n sp all h m cur after ρ'' K) := by simp [gpQ, closes]
theorem semiG_nil : semiG sp [] = true := rfl
theorem semiG_cons (op : Op) : semiG sp (⟨dst, op, ty, pos, aft, gd⟩ :: rest) = (semiOp sp op && semiG sp rest) := rfl
theorem sq_move (x : Operand) : stepQ P n ⟨dst, .move x, ty, pos, aft, gd⟩ ρ h K = stepW P n ⟨dst, .move x, ty, pos, aft, gd⟩ ρ h (fun ρ' _ => K ρ') (fun _ _ => False) := by
  simp only [stepQ, quietOp, need, true_and]; rfl
theorem semi_move (x : Operand) : semiOp sp (.move x) = true := rfl
theorem sq_assign (x : Operand) : stepQ P n ⟨dst, .assign x, ty, pos, aft, gd⟩ ρ h K = stepW P n ⟨dst, .assign x, ty, pos, aft, gd⟩ ρ h (fun ρ' _ => K ρ') (fun _ _ => False) := by
  simp only [stepQ, quietOp, need, true_and]; rfl
theorem semi_assign (x : Operand) : semiOp sp (.assign x) = false := rfl
theorem sq_pick (x a b : Operand) : stepQ P n ⟨dst, .pick x a b, ty, pos, aft, gd⟩ ρ h K = stepW P n ⟨dst, .pick x a b, ty, pos, aft, gd⟩ ρ h (fun ρ' _ => K ρ') (fun _ _ => False) := by
  simp only [stepQ, quietOp, need, true_and]; rfl
theorem semi_pick (x a b : Operand) : semiOp sp (.pick x a b) = true := rfl
theorem sq_build (t : TypeId) (ps : List (Nat × Operand)) : stepQ P n ⟨dst, .build t ps.toArray, ty, pos, aft, gd⟩ ρ h K = stepW P n ⟨dst, .build t ps.toArray, ty, pos, aft, gd⟩ ρ h (fun ρ' _ => K ρ') (fun _ _ => False) := by
  simp only [stepQ, quietOp, need, true_and]; rfl
theorem semi_build (t : TypeId) (ps : List (Nat × Operand)) : semiOp sp (.build t ps.toArray) = !sp := rfl
theorem sq_load (t : TypeId) (x : Operand) : stepQ P n ⟨dst, .load t x, ty, pos, aft, gd⟩ ρ h K = stepW P n ⟨dst, .load t x, ty, pos, aft, gd⟩ ρ h (fun ρ' _ => K ρ') (fun _ _ => False) := by
  simp only [stepQ, quietOp, need, true_and]; rfl
theorem semi_load (t : TypeId) (x : Operand) : semiOp sp (.load t x) = !sp := rfl
theorem sq_nilCheck (x : Operand) : stepQ P n ⟨dst, .nilCheck x, ty, pos, aft, gd⟩ ρ h K = stepW P n ⟨dst, .nilCheck x, ty, pos, aft, gd⟩ ρ h (fun ρ' _ => K ρ') (fun _ _ => False) := by
  simp only [stepQ, quietOp, need, true_and]; rfl
theorem semi_nilCheck (x : Operand) : semiOp sp (.nilCheck x) = !sp := rfl
theorem sq_binOp (op : BinOp) (t : TypeId) (x y : Operand) (t' : TypeId) : stepQ P n ⟨dst, .binOp op t x y t', ty, pos, aft, gd⟩ ρ h K = stepW P n ⟨dst, .binOp op t x y t', ty, pos, aft, gd⟩ ρ h (fun ρ' _ => K ρ') (fun _ _ => False) := by
  simp only [stepQ, quietOp, need, true_and]; rfl
theorem semi_binOp (op : BinOp) (t : TypeId) (x y : Operand) (t' : TypeId) : semiOp sp (.binOp op t x y t') = pureB op := by cases op <;> rfl
theorem sq_unOp (op : UnOp) (t : TypeId) (x : Operand) : stepQ P n ⟨dst, .unOp op t x, ty, pos, aft, gd⟩ ρ h K = stepW P n ⟨dst, .unOp op t x, ty, pos, aft, gd⟩ ρ h (fun ρ' _ => K ρ') (fun _ _ => False) := by
  simp only [stepQ, quietOp, need, true_and]; rfl
theorem semi_unOp (op : UnOp) (t : TypeId) (x : Operand) : semiOp sp (.unOp op t x) = true := rfl
theorem sq_makeInterface (t : TypeId) (x : Operand) : stepQ P n ⟨dst, .makeInterface t x, ty, pos, aft, gd⟩ ρ h K = stepW P n ⟨dst, .makeInterface t x, ty, pos, aft, gd⟩ ρ h (fun ρ' _ => K ρ') (fun _ _ => False) := by
  simp only [stepQ, quietOp, need, true_and]; rfl
theorem semi_makeInterface (t : TypeId) (x : Operand) : semiOp sp (.makeInterface t x) = false := rfl
theorem sq_fieldAddr (t : TypeId) (x : Operand) (i : Nat) : stepQ P n ⟨dst, .fieldAddr t x i, ty, pos, aft, gd⟩ ρ h K = stepW P n ⟨dst, .fieldAddr t x i, ty, pos, aft, gd⟩ ρ h (fun ρ' _ => K ρ') (fun _ _ => False) := by
  simp only [stepQ, quietOp, need, true_and]; rfl
theorem semi_fieldAddr (t : TypeId) (x : Operand) (i : Nat) : semiOp sp (.fieldAddr t x i) = !sp := rfl
theorem sq_field (t : TypeId) (x : Operand) (i : Nat) : stepQ P n ⟨dst, .field t x i, ty, pos, aft, gd⟩ ρ h K = stepW P n ⟨dst, .field t x i, ty, pos, aft, gd⟩ ρ h (fun ρ' _ => K ρ') (fun _ _ => False) := by
  simp only [stepQ, quietOp, need, true_and]; rfl
theorem semi_field (t : TypeId) (x : Operand) (i : Nat) : semiOp sp (.field t x i) = !sp := rfl
theorem sq_indexAddr (t : TypeId) (x i : Operand) : stepQ P n ⟨dst, .indexAddr t x i, ty, pos, aft, gd⟩ ρ h K = stepW P n ⟨dst, .indexAddr t x i, ty, pos, aft, gd⟩ ρ h (fun ρ' _ => K ρ') (fun _ _ => False) := by
  simp only [stepQ, quietOp, need, true_and]; rfl
theorem semi_indexAddr (t : TypeId) (x i : Operand) : semiOp sp (.indexAddr t x i) = false := rfl
theorem sq_index (t : TypeId) (x i : Operand) : stepQ P n ⟨dst, .index t x i, ty, pos, aft, gd⟩ ρ h K = stepW P n ⟨dst, .index t x i, ty, pos, aft, gd⟩ ρ h (fun ρ' _ => K ρ') (fun _ _ => False) := by
  simp only [stepQ, quietOp, need, true_and]; rfl
theorem semi_index (t : TypeId) (x i : Operand) : semiOp sp (.index t x i) = false := rfl
theorem sq_extract (x : Operand) (i : Nat) : stepQ P n ⟨dst, .extract x i, ty, pos, aft, gd⟩ ρ h K = stepW P n ⟨dst, .extract x i, ty, pos, aft, gd⟩ ρ h (fun ρ' _ => K ρ') (fun _ _ => False) := by
  simp only [stepQ, quietOp, need, true_and]; rfl
theorem semi_extract (x : Operand) (i : Nat) : semiOp sp (.extract x i) = true := rfl
theorem sq_slice (t : TypeId) (x : Operand) (lo hi : Option Operand) : stepQ P n ⟨dst, .slice t x lo hi none, ty, pos, aft, gd⟩ ρ h K = stepW P n ⟨dst, .slice t x lo hi none, ty, pos, aft, gd⟩ ρ h (fun ρ' _ => K ρ') (fun _ _ => False) := by
  simp only [stepQ, quietOp, need, true_and]; rfl
theorem semi_slice (t : TypeId) (x : Operand) (lo hi : Option Operand) : semiOp sp (.slice t x lo hi none) = false := rfl
theorem sq_len (x : Operand) (t : TypeId) : stepQ P n ⟨dst, .call ⟨.builtin .len, #[x], #[t]⟩, ty, pos, aft, gd⟩ ρ h K = stepW P n ⟨dst, .call ⟨.builtin .len, #[x], #[t]⟩, ty, pos, aft, gd⟩ ρ h (fun ρ' _ => K ρ') (fun _ _ => False) := by
  simp only [stepQ, quietOp, need, true_and]; rfl
theorem semi_len (x : Operand) (t : TypeId) : semiOp sp (.call ⟨.builtin .len, #[x], #[t]⟩) = true := rfl
def qcv (u : Option TypeDesc) : Bool := match u with | some (.int _) => true | _ => false
theorem qcv_int (k : IntKind) : qcv (some (.int k)) = true := rfl
theorem sq_convert (s d : TypeId) (x : Operand) : stepQ P n ⟨dst, .convert s d x, ty, pos, aft, gd⟩ ρ h K = need (qcv (P.underlying d) = true) (stepW P n ⟨dst, .convert s d x, ty, pos, aft, gd⟩ ρ h (fun ρ' _ => K ρ') (fun _ _ => False)) := by
  simp only [stepQ, quietOp, need]; rfl
theorem semi_convert (s d : TypeId) (x : Operand) : semiOp sp (.convert s d x) = false := rfl
theorem semi_call (f : Operand) (xs : Array Operand) (ts : Array TypeId) : semiOp sp (.call ⟨.value f, xs, ts⟩) = false := rfl
theorem callQ_func (g : FuncId) (vs : List Value) : callQ P n dst (.func (.func g) #[] #[]) vs ρ h K = need (callable P g = true) (∃ v, CallsH P g vs.toArray h (fun e h' => e = .returned v ∧ h' = h) ∧ putK n dst v ρ K) := by
  simp [callQ]
theorem callQ_exact {P : Program} {n : Nat} {dst : Option Nat} {ρ : Env} {h : Heap} {K : Env → Prop} {g : FuncId} {vs : List Value} {v : Value} (hi : P.inits.idxOf? g = none) (hc : callable P g = true) (hx : CallsH P g vs.toArray h fun e h2 => e = .returned v ∧ h2 = h) :
    callQ P n dst (.func (.func g) #[] #[]) vs ρ h K = putK n dst v ρ K := by
  rw [callQ_func, hc]
  apply propext
  constructor
  · rintro ⟨-, v', h1, h2⟩
    have := CallsH.det (p := (v, h)) ⟨hi, hx⟩ h1 (by intro _ ⟨h, _⟩; cases h) (by intro _ _ ⟨h, _⟩; cases h)
    simp only [Ending.returned.injEq] at this
    rw [this.1]
    exact h2
  · exact fun h2 => ⟨rfl, v, hx, h2⟩
theorem sq_call (f : Operand) (xs : List Operand) (ts : Array TypeId) : stepQ P n ⟨dst, .call ⟨.value f, xs.toArray, ts⟩, ty, pos, aft, gd⟩ ρ h K = bnd (evO ρ f) fun fv => bnd (evL ρ xs) fun vs => callQ P n dst fv vs ρ h K := rfl
end
theorem vmQ : type_of% (And.intro @denQ_nil (And.intro @denQ_plain (And.intro @denQ_in (And.intro @denQ_grp0 (And.intro @denQ_grp (And.intro @gvQ_bool (And.intro @gpQ_no (And.intro @gpQ_or (And.intro @gpQ_and (And.intro @sq_move (And.intro @sq_assign (And.intro @sq_pick (And.intro @sq_build (And.intro @sq_load (And.intro @sq_nilCheck (And.intro @sq_binOp (And.intro @sq_unOp (And.intro @sq_makeInterface (And.intro @sq_fieldAddr (And.intro @sq_field (And.intro @sq_indexAddr (And.intro @sq_index (And.intro @sq_extract (And.intro @sq_slice (And.intro @sq_len (And.intro @sq_convert (@sq_call))))))))))))))))))))))))))) := And.intro @denQ_nil (And.intro @denQ_plain (And.intro @denQ_in (And.intro @denQ_grp0 (And.intro @denQ_grp (And.intro @gvQ_bool (And.intro @gpQ_no (And.intro @gpQ_or (And.intro @gpQ_and (And.intro @sq_move (And.intro @sq_assign (And.intro @sq_pick (And.intro @sq_build (And.intro @sq_load (And.intro @sq_nilCheck (And.intro @sq_binOp (And.intro @sq_unOp (And.intro @sq_makeInterface (And.intro @sq_fieldAddr (And.intro @sq_field (And.intro @sq_indexAddr (And.intro @sq_index (And.intro @sq_extract (And.intro @sq_slice (And.intro @sq_len (And.intro @sq_convert (@sq_call))))))))))))))))))))))))))
theorem vmR : type_of% (And.intro @semiG_nil (And.intro @semiG_cons (And.intro @semi_move (And.intro @semi_assign (And.intro @semi_pick (And.intro @semi_build (And.intro @semi_load (And.intro @semi_nilCheck (And.intro @semi_binOp (And.intro @semi_unOp (And.intro @semi_makeInterface (And.intro @semi_fieldAddr (And.intro @semi_field (And.intro @semi_indexAddr (And.intro @semi_index (And.intro @semi_extract (And.intro @semi_slice (And.intro @semi_len (And.intro @semi_convert (And.intro @semi_call (@qcv_int))))))))))))))))))))) := And.intro @semiG_nil (And.intro @semiG_cons (And.intro @semi_move (And.intro @semi_assign (And.intro @semi_pick (And.intro @semi_build (And.intro @semi_load (And.intro @semi_nilCheck (And.intro @semi_binOp (And.intro @semi_unOp (And.intro @semi_makeInterface (And.intro @semi_fieldAddr (And.intro @semi_field (And.intro @semi_indexAddr (And.intro @semi_index (And.intro @semi_extract (And.intro @semi_slice (And.intro @semi_len (And.intro @semi_convert (And.intro @semi_call (@qcv_int))))))))))))))))))))
end Go.Vm
