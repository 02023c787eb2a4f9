/-
The evaluator's equations, for simp.
Conditions: none. Generic: it speaks of no program.
-/
import Derived.Test.YtfphceknmgadgaaDoorVmRun
set_option linter.unusedSimpArgs false
set_option linter.unusedVariables false
namespace Go.Vm
def grpS (all : List Oper) (s j : Nat) (want : Bool) (sk : List Nat) (d : Nat) (l : List Oper) (o : Option Nat) : Bool := match o with | some s' => if s' ∈ sk then grpOk all s j want (d :: sk) l else false | none => false
section
variable (c : Cx) (k : List It) (ρ : Env) (h : Heap)
theorem den_nil [dd : DefD] : den c [] ρ h = retW c ρ h := by rw [den]
theorem den_blk [dd : DefD] (id : Nat) : den c (.blk id :: k) ρ h = den c k ρ h := by rw [den]
theorem den_sc [dd : DefD] (b : Code) : den c (.sc b :: k) ρ h = den c k ρ h := by rw [den]
theorem den_lp [dd : DefD] (b : Code) : den c (.lp b :: k) ρ h = withE (canon c.live ρ) fun ρ => @LoopAt dd c b k ρ h () := by rw [den]; rfl
theorem den_skip [dd : DefD] : den c (.code .skip :: k) ρ h = den c k ρ h := by rw [den]
theorem den_label [dd : DefD] (l : Nat) : den c (.code (.label l) :: k) ρ h = den c k ρ h := by rw [den]
theorem den_ret [dd : DefD] : den c (.code .ret :: k) ρ h = retW c ρ h := by rw [den]
theorem den_seq [dd : DefD] (x y : Code) : den c (.code (.seq x y) :: k) ρ h = den c (.code x :: .code y :: k) ρ h := by rw [den]
theorem den_cond [dd : DefD] (x : Operand) (t e : Code) : den c (.code (.cond x t e) :: k) ρ h = bnd (evO ρ x) fun v => ifV v (den c (.code t :: k) ρ h) (den c (.code e :: k) ρ h) := by rw [den]
theorem den_block [dd : DefD] (id : Nat) (b : Code) : den c (.code (.block id b) :: k) ρ h = den c (.code b :: .blk id :: k) ρ h := by rw [den]
theorem den_scope [dd : DefD] (b : Code) : den c (.code (.scope b) :: k) ρ h = den c (.code b :: .sc b :: k) ρ h := by rw [den]
theorem den_loop [dd : DefD] (b : Code) : den c (.code (.loop b) :: k) ρ h = withE (canon c.live ρ) fun ρ => @LoopAt dd c b k ρ h () := by rw [den]; rfl
theorem den_region [dd : DefD] (id : Nat) (ops : List Oper) : den c (.code (.region id ops.toArray false) :: k) ρ h =
    withE (canon c.live ρ) fun ρ => denOps c.P c.n ops 400 none ops ρ h (fun ρ' h' => den c k ρ' h') fun ch h' => c.R (.panicked ch) h' := by rw [den]; rfl
theorem den_regionD [dd : DefD] (id : Nat) (ops : Array Oper) : den c (.code (.region id ops true) :: k) ρ h = withE (canon c.live ρ) fun ρ => @Meant dd c (.code (.region id ops true) :: k) ρ h () := by rw [den]; rfl
theorem den_exit [dd : DefD] (id : Nat) : den c (.code (.exit id) :: k) ρ h = denX c (exitK id k) ρ h := by
  rw [den]; cases exitK id k <;> rfl
end
section
variable (P : Program) (n : Nat) (all : List Oper) (m : Nat) (ρ : Env) (h : Heap) (K : Env → Heap → Prop) (X : List PanicEntry → Heap → Prop)
variable (dst : Option Nat) (ty : TypeId) (pos : String) (aft : Array Edge) (gd : Option (Nat × Bool)) (rest : List Oper)
theorem denOps_nil (cur : Option (Nat × Bool)) : denOps P n all (m + 1) cur [] ρ h K X = K ρ h := rfl
theorem denOps_plain (op : Op) : denOps P n all (m + 1) none (⟨dst, op, ty, pos, aft, none⟩ :: rest) ρ h K X =
    stepW P n ⟨dst, op, ty, pos, aft, none⟩ ρ h (fun ρ' h' => denOps P n all m none rest ρ' h' K X) X := by simp [denOps]
theorem denOps_in (op : Op) (g : Nat × Bool) : denOps P n all (m + 1) (some g) (⟨dst, op, ty, pos, aft, some g⟩ :: rest) ρ h K X =
    stepW P n ⟨dst, op, ty, pos, aft, some g⟩ ρ h (fun ρ' h' => denOps P n all m (some g) rest ρ' h' K X) X := by simp [denOps]
def grpW (cur : Option (Nat × Bool)) (j : Nat) (want : Bool) (g after : List Oper) (s : Nat) (b : Bool) : Prop :=
  need (grpOk all s j want [] g = true) (match pureG g, after with
  | true, p :: after' => match closes want s p.op with
    | some y => denOps P n all m (some (j, want)) g ρ h (fun ρ' h' => bnd (evO ρ' y) fun c => joinK n p.dst want b c (hid g ρ) fun ρ'' => denOps P n all m cur after' ρ'' h' K X) X
    | none => False
  | _, after => ifB (b == want) (denOps P n all m (some (j, want)) g ((s, some (.bool want)) :: ρ) h (fun ρ' h' => denOps P n all m cur after ρ' h' K X) X) (denOps P n all m cur after (hid g ((s, some (.bool (!want))) :: ρ)) h K X))
def grpV (cur : Option (Nat × Bool)) (j : Nat) (want : Bool) (g after : List Oper) (s : Nat) (v : Value) : Prop :=
  match v with | .bool b => grpW P n all m ρ h K X cur j want g after s b | _ => False
theorem grpV_bool (cur : Option (Nat × Bool)) (j : Nat) (want : Bool) (g after : List Oper) (s : Nat) (b : Bool) :
    grpV P n all m ρ h K X cur j want g after s (.bool b) = grpW P n all m ρ h K X cur j want g after s b := rfl
theorem denOps_grp (op : Op) (cur : Option (Nat × Bool)) (j : Nat) (want : Bool) (hne : ¬ some (j, want) = cur) : denOps P n all (m + 1) cur (⟨dst, op, ty, pos, aft, some (j, want)⟩ :: rest) ρ h K X =
    bnd (slotOf all j) fun s => bnd (get ρ s) fun v => grpV P n all m ρ h K X cur j want
      (⟨dst, op, ty, pos, aft, some (j, want)⟩ :: grpOf cur rest) (aftOf cur rest) s v := by
  have h1 : grpOf cur (⟨dst, op, ty, pos, aft, some (j, want)⟩ :: rest) = ⟨dst, op, ty, pos, aft, some (j, want)⟩ :: grpOf cur rest := by simp [grpOf, hne]
  have h2 : aftOf cur (⟨dst, op, ty, pos, aft, some (j, want)⟩ :: rest) = aftOf cur rest := by simp [aftOf, hne]
  rw [denOps, if_neg hne, h1, h2]
  congr 1
theorem denOps_grp0 (op : Op) (j : Nat) (want : Bool) : denOps P n all (m + 1) none (⟨dst, op, ty, pos, aft, some (j, want)⟩ :: rest) ρ h K X =
    bnd (slotOf all j) fun s => bnd (get ρ s) fun v => grpV P n all m ρ h K X none j want
      (⟨dst, op, ty, pos, aft, some (j, want)⟩ :: grpOf none rest) (aftOf none rest) s v := denOps_grp P n all m ρ h K X dst ty pos aft rest op none j want (by simp)
theorem grpOf_nil (cur : Option (Nat × Bool)) : grpOf cur [] = [] := rfl
theorem grpOf_cons (cur : Option (Nat × Bool)) (op : Op) : grpOf cur (⟨dst, op, ty, pos, aft, gd⟩ :: rest) = if gd = cur then [] else ⟨dst, op, ty, pos, aft, gd⟩ :: grpOf cur rest := rfl
theorem aftOf_nil (cur : Option (Nat × Bool)) : aftOf cur [] = [] := rfl
theorem aftOf_cons (cur : Option (Nat × Bool)) (op : Op) : aftOf cur (⟨dst, op, ty, pos, aft, gd⟩ :: rest) = if gd = cur then ⟨dst, op, ty, pos, aft, gd⟩ :: rest else aftOf cur rest := rfl
theorem slotOf_zero (op : Op) : slotOf (⟨dst, op, ty, pos, aft, gd⟩ :: rest) 0 = dst := rfl
theorem slotOf_succ (o : Oper) (j : Nat) : slotOf (o :: rest) (j + 1) = slotOf rest j := rfl
theorem pureG_nil : pureG [] = true := rfl
theorem pureG_cons (op : Op) : pureG (⟨dst, op, ty, pos, aft, gd⟩ :: rest) = (pureOp op && pureG rest) := rfl
theorem st_move (x : Operand) : stepW P n ⟨dst, .move x, ty, pos, aft, gd⟩ ρ h K X = bnd (evO ρ x) fun v => putK n dst v ρ fun ρ' => K ρ' h := rfl
theorem st_assign (x : Operand) : stepW P n ⟨dst, .assign x, ty, pos, aft, gd⟩ ρ h K X = bnd (evO ρ x) fun v => putK n dst v ρ fun ρ' => K ρ' h := rfl
theorem st_pick (x a b : Operand) : stepW P n ⟨dst, .pick x a b, ty, pos, aft, gd⟩ ρ h K X = bnd (evO ρ x) fun v => ifV v (bnd (evO ρ a) fun u => putK n dst u ρ fun ρ' => K ρ' h) (bnd (evO ρ b) fun u => putK n dst u ρ fun ρ' => K ρ' h) := rfl
theorem st_alloc (e : TypeId) : stepW P n ⟨dst, .alloc e, ty, pos, aft, gd⟩ ρ h K X = bnd (zro P e) fun z => putK n dst (.pointer (some ⟨h.size, 0, none⟩)) ρ fun ρ' => K ρ' (h.push (.cells z.cells e)) := rfl
theorem st_box (e : TypeId) (x : Operand) : stepW P n ⟨dst, .box e x, ty, pos, aft, gd⟩ ρ h K X = bnd (evO ρ x) fun v => putK n dst (.pointer (some ⟨h.size, 0, none⟩)) ρ fun ρ' => K ρ' (h.push (.cells v.cells e)) := rfl
theorem st_build (t : TypeId) (ps : List (Nat × Operand)) : stepW P n ⟨dst, .build t ps.toArray, ty, pos, aft, gd⟩ ρ h K X = bnd (evP ρ ps) fun vs => bnd (bldV P t vs) fun v => putK n dst v ρ fun ρ' => K ρ' h := rfl
theorem st_buildSlice (t : TypeId) (l : Nat) (ps : List (Nat × Operand)) : stepW P n ⟨dst, .buildSlice t l ps.toArray, ty, pos, aft, gd⟩ ρ h K X = bnd (evP ρ ps) fun vs => bnd (sliceCells P t l vs) fun r => putK n dst (.slice (some ⟨h.size, 0, none⟩) l l) ρ fun ρ' => K ρ' (h.push (.cells r.2 r.1)) := rfl
theorem st_load (t : TypeId) (x : Operand) : stepW P n ⟨dst, .load t x, ty, pos, aft, gd⟩ ρ h K X = bnd (evO ρ x) fun p => bnd (addrOf p) fun a => bnd (rdVar P h t a) fun v => putK n dst v ρ fun ρ' => K ρ' h := rfl
theorem st_store (t : TypeId) (x y : Operand) : stepW P n ⟨dst, .store t x y, ty, pos, aft, gd⟩ ρ h K X = bnd (evO ρ x) fun p => bnd (addrOf p) fun a => bnd (evO ρ y) fun v => bnd (shp P t) fun s => need (v.cells.size = s.2) (bnd (wrCells h a v.cells.toList) fun h' => putK n dst undef ρ fun ρ' => K ρ' h') := rfl
theorem st_nilCheck (x : Operand) : stepW P n ⟨dst, .nilCheck x, ty, pos, aft, gd⟩ ρ h K X = bnd (evO ρ x) fun p => bnd (addrOf p) fun _ => putK n dst p ρ fun ρ' => K ρ' h := rfl
theorem st_binOp (op : BinOp) (t : TypeId) (x y : Operand) (t' : TypeId) : stepW P n ⟨dst, .binOp op t x y t', ty, pos, aft, gd⟩ ρ h K X = bnd (evO ρ x) fun a => bnd (evO ρ y) fun b => binW P op t a b fun v => putK n dst v ρ fun ρ' => K ρ' h := rfl
theorem st_unOp (op : UnOp) (t : TypeId) (x : Operand) : stepW P n ⟨dst, .unOp op t x, ty, pos, aft, gd⟩ ρ h K X = bnd (evO ρ x) fun v => bnd (unV op v) fun u => putK n dst u ρ fun ρ' => K ρ' h := rfl
theorem st_convert (s d : TypeId) (x : Operand) : stepW P n ⟨dst, .convert s d x, ty, pos, aft, gd⟩ ρ h K X = bnd (evO ρ x) fun v => cnvW P s d v h fun u h' => putK n dst u ρ fun ρ' => K ρ' h' := rfl
theorem st_makeInterface (t : TypeId) (x : Operand) : stepW P n ⟨dst, .makeInterface t x, ty, pos, aft, gd⟩ ρ h K X = bnd (evO ρ x) fun v => need (P.concrete t = true) (putK n dst (.iface t v) ρ fun ρ' => K ρ' h) := rfl
theorem st_makeFunc (fn : Fn) (fs cs : List Operand) : stepW P n ⟨dst, .makeFunc fn fs.toArray cs.toArray, ty, pos, aft, gd⟩ ρ h K X = bnd (evL ρ fs) fun us => bnd (evL ρ cs) fun vs => putK n dst (.func fn us.toArray vs.toArray) ρ fun ρ' => K ρ' h := rfl
theorem st_makeMap (t : TypeId) : stepW P n ⟨dst, .makeMap t none, ty, pos, aft, gd⟩ ρ h K X = putK n dst (.map (some h.size)) ρ fun ρ' => K ρ' (h.push (.map #[] 0)) := rfl
theorem st_makeSlice (t : TypeId) (l c : Operand) : stepW P n ⟨dst, .makeSlice t l c, ty, pos, aft, gd⟩ ρ h K X = bnd (evO ρ l) fun lv => bnd (evO ρ c) fun cv => RunW P (Instr.makeSlice t lv cv) h fun v h' => putK n dst v ρ fun ρ' => K ρ' h' := rfl
theorem st_slice (t : TypeId) (x : Operand) (lo hi : Option Operand) : stepW P n ⟨dst, .slice t x lo hi none, ty, pos, aft, gd⟩ ρ h K X = bnd (evO ρ x) fun v => bnd (optO ρ lo) fun l => bnd (optO ρ hi) fun r => slW P t v l r fun u => putK n dst u ρ fun ρ' => K ρ' h := rfl
theorem st_fieldAddr (t : TypeId) (x : Operand) (i : Nat) : stepW P n ⟨dst, .fieldAddr t x i, ty, pos, aft, gd⟩ ρ h K X = bnd (evO ρ x) fun p => bnd (addrOf p) fun a => bnd (fld P t i) fun f => need (f.2.2 ≠ 0) (putK n dst (.pointer (some (a.add f.1))) ρ fun ρ' => K ρ' h) := rfl
theorem st_field (t : TypeId) (x : Operand) (i : Nat) : stepW P n ⟨dst, .field t x i, ty, pos, aft, gd⟩ ρ h K X = bnd (evO ρ x) fun v => bnd (fldV P t i v) fun u => putK n dst u ρ fun ρ' => K ρ' h := rfl
theorem st_indexAddr (t : TypeId) (x i : Operand) : stepW P n ⟨dst, .indexAddr t x i, ty, pos, aft, gd⟩ ρ h K X = bnd (evO ρ x) fun v => bnd (evO ρ i) fun j => ixaW P t v j fun u => putK n dst u ρ fun ρ' => K ρ' h := rfl
theorem st_index (t : TypeId) (x i : Operand) : stepW P n ⟨dst, .index t x i, ty, pos, aft, gd⟩ ρ h K X = bnd (evO ρ x) fun v => bnd (evO ρ i) fun j => idxW P t v j fun u => putK n dst u ρ fun ρ' => K ρ' h := rfl
theorem st_lookup (t : TypeId) (x i : Operand) (ok : Bool) : stepW P n ⟨dst, .lookup t x i ok, ty, pos, aft, gd⟩ ρ h K X = bnd (evO ρ x) fun v => bnd (evO ρ i) fun k => RunW P (Instr.lookup t v k ok) h fun u h' => putK n dst u ρ fun ρ' => K ρ' h' := rfl
theorem st_mapUpdate (t : TypeId) (x i y : Operand) : stepW P n ⟨dst, .mapUpdate t x i y, ty, pos, aft, gd⟩ ρ h K X = bnd (evO ρ x) fun m => bnd (evO ρ i) fun k => bnd (evO ρ y) fun v => RunW P (do Instr.mapUpdate t m k v; Pure.pure undef) h fun u h' => putK n dst u ρ fun ρ' => K ρ' h' := rfl
theorem st_insert (t : TypeId) (x i y : Operand) : stepW P n ⟨dst, .insert t x i y, ty, pos, aft, gd⟩ ρ h K X = bnd (evO ρ x) fun m => bnd (evO ρ i) fun k => bnd (evO ρ y) fun v => RunW P (do Instr.mapUpdate t m k v; Pure.pure undef) h fun u h' => putK n dst u ρ fun ρ' => K ρ' h' := rfl
theorem st_range (t : TypeId) (x : Operand) : stepW P n ⟨dst, .range t x, ty, pos, aft, gd⟩ ρ h K X = bnd (evO ρ x) fun v => RunW P (Instr.range t v) h fun u h' => putK n dst u ρ fun ρ' => K ρ' h' := rfl
theorem st_next (x : Operand) (s : Bool) : stepW P n ⟨dst, .next x s, ty, pos, aft, gd⟩ ρ h K X = bnd (evO ρ x) fun v => RunW P (Instr.next v s ty) h fun u h' => putK n dst u ρ fun ρ' => K ρ' h' := rfl
theorem st_typeAssert (x : Operand) (t a : TypeId) (ok : Bool) : stepW P n ⟨dst, .typeAssert x t a ok, ty, pos, aft, gd⟩ ρ h K X = bnd (evO ρ x) fun v => RunW P (Instr.typeAssert v t a ok) h fun u h' => putK n dst u ρ fun ρ' => K ρ' h' := rfl
def exW (v : Value) (i : Nat) (K : Value → Prop) : Prop := match v with | .tuple vs => bnd vs[i]? K | _ => False
theorem exW_zero (v : Value) (l : List Value) (K : Value → Prop) : exW (.tuple (List.toArray (v :: l))) 0 K = K v := rfl
theorem exW_succ (v : Value) (l : List Value) (i : Nat) (K : Value → Prop) : exW (.tuple (List.toArray (v :: l))) (i + 1) K = exW (.tuple l.toArray) i K := by simp [exW]
theorem st_extract (x : Operand) (i : Nat) : stepW P n ⟨dst, .extract x i, ty, pos, aft, gd⟩ ρ h K X = bnd (evO ρ x) fun v => exW v i fun u => putK n dst u ρ fun ρ' => K ρ' h := by
  unfold stepW opW exW; rfl
theorem st_len (x : Operand) (t : TypeId) : stepW P n ⟨dst, .call ⟨.builtin .len, #[x], #[t]⟩, ty, pos, aft, gd⟩ ρ h K X = bnd (evO ρ x) fun v => lenW P t v h fun u => putK n dst u ρ fun ρ' => K ρ' h := by
  unfold stepW opW
  simp only [evL]
  cases evO ρ x <;> simp [bnd, consL]
theorem st_append (xs : List Operand) (ts : Array TypeId) : stepW P n ⟨dst, .call ⟨.builtin .append, xs.toArray, ts⟩, ty, pos, aft, gd⟩ ρ h K X = bnd (evL ρ xs) fun vs => RunW P (Builtin.append_ ts ty vs.toArray) h fun v h' => putK n dst v ρ fun ρ' => K ρ' h' := rfl
theorem st_cap (xs : List Operand) (ts : Array TypeId) : stepW P n ⟨dst, .call ⟨.builtin .cap, xs.toArray, ts⟩, ty, pos, aft, gd⟩ ρ h K X = bnd (evL ρ xs) fun vs => RunW P (Builtin.cap_ ts ty vs.toArray) h fun v h' => putK n dst v ρ fun ρ' => K ρ' h' := rfl
theorem st_copy (xs : List Operand) (ts : Array TypeId) : stepW P n ⟨dst, .call ⟨.builtin .copy, xs.toArray, ts⟩, ty, pos, aft, gd⟩ ρ h K X = bnd (evL ρ xs) fun vs => RunW P (Builtin.copy_ ts ty vs.toArray) h fun v h' => putK n dst v ρ fun ρ' => K ρ' h' := rfl
theorem st_delete (xs : List Operand) (ts : Array TypeId) : stepW P n ⟨dst, .call ⟨.builtin .delete, xs.toArray, ts⟩, ty, pos, aft, gd⟩ ρ h K X = bnd (evL ρ xs) fun vs => RunW P (Builtin.delete_ ts ty vs.toArray) h fun v h' => putK n dst v ρ fun ρ' => K ρ' h' := rfl
theorem st_call (f : Operand) (xs : List Operand) (ts : Array TypeId) : stepW P n ⟨dst, .call ⟨.value f, xs.toArray, ts⟩, ty, pos, aft, gd⟩ ρ h K X = bnd (evO ρ f) fun fv => bnd (evL ρ xs) fun vs => callW P fv vs h (@RetK n dst ρ K X ()) := rfl
def panW (v : Value) (X : List PanicEntry → Prop) : Prop := match v with | .iface t u => X [{ v := .iface t u, recovered := false }] | _ => False
theorem panW_iface (t : TypeId) (u : Value) (X : List PanicEntry → Prop) : panW (.iface t u) X = X [{ v := .iface t u, recovered := false }] := rfl
theorem st_panic (x : Operand) : stepW P n ⟨dst, .panic x, ty, pos, aft, gd⟩ ρ h K X = bnd (evO ρ x) fun v => panW v fun ch => X ch h := by
  unfold stepW panW; rfl
theorem putK_some (d : Nat) (v : Value) (k : Env → Prop) : putK n (some d) v ρ k = need (d < n) (k ((d, some v) :: ρ)) := rfl
theorem putK_none (v : Value) (k : Env → Prop) : putK n none v ρ k = k ρ := rfl
theorem RetK_ret (v : Value) : @RetK n dst ρ K X () (.returned v) h = putK n dst v ρ fun ρ' => K ρ' h := rfl
theorem RetK_pan (ch : List PanicEntry) : @RetK n dst ρ K X () (.panicked ch) h = X ch h := rfl
theorem joinK_bool (want b c : Bool) (k : Env → Prop) : joinK n dst want b (.bool c) ρ k = putK n dst (.bool (joinB want b c)) ρ k := rfl
theorem joinB_true (b c : Bool) : joinB true b c = (b && c) := rfl
theorem joinB_false (b c : Bool) : joinB false b c = (b || c) := rfl
theorem callW_func (g : FuncId) (fs vs cs : List Value) (Q : Ending → Heap → Prop) : callW P (.func (.func g) fs.toArray cs.toArray) vs h Q = if callable P g = true then CallsX P g (fs ++ vs ++ cs).toArray h Q else ExtW P g (fs ++ vs ++ cs).toArray h Q := by
  simp [callW]
theorem get_nil (t : Nat) : get [] t = none := rfl
theorem get_cons (s : Nat) (v : Option Value) (t : Nat) : get ((s, v) :: ρ) t = if s = t then v else get ρ t := rfl
theorem canon_nil : canon [] ρ = [] := rfl
theorem canon_cons (s : Nat) (l : List Nat) : canon (s :: l) ρ = consO s (get ρ s) (canon l ρ) := rfl
theorem consO_some (s : Nat) (v : Value) : consO s (some v) ρ = (s, some v) :: ρ := rfl
theorem consO_none (s : Nat) : consO s none ρ = ρ := rfl
theorem evO_tmp (t : Nat) : evO ρ (.tmp t) = get ρ t := rfl
theorem evO_const (v : Value) : evO ρ (.const v) = some v := rfl
theorem evO_global (g : Nat) : evO ρ (.global g) = some (.pointer (some ⟨g, 0, none⟩)) := rfl
theorem evO_func (f : Nat) : evO ρ (.func f) = some (.func (.func f) (List.toArray []) (List.toArray [])) := rfl
theorem evL_nil : evL ρ [] = some [] := rfl
theorem evL_cons (x : Operand) (l : List Operand) : evL ρ (x :: l) = consL (evO ρ x) (evL ρ l) := rfl
theorem consL_some (v : Value) (l : List Value) : consL (some v) (some l) = some (v :: l) := rfl
theorem evP_nil : evP ρ [] = some [] := rfl
theorem evP_cons (i : Nat) (x : Operand) (l : List (Nat × Operand)) : evP ρ ((i, x) :: l) = consP i (evO ρ x) (evP ρ l) := rfl
theorem consP_some (i : Nat) (v : Value) (l : List (Nat × Value)) : consP i (some v) (some l) = some ((i, v) :: l) := rfl
theorem optO_none : optO ρ none = some none := rfl
theorem optO_some (x : Operand) : optO ρ (some x) = (evO ρ x).map some := rfl
theorem retW_eq (c : Cx) : retW c ρ h = bnd (resL c.P ρ h c.fn.results.toList) fun vs => c.R (.returned (one vs)) h := rfl
theorem resL_nil : resL P ρ h [] = some [] := rfl
theorem resL_cons (r : ResultVar) (l : List ResultVar) : resL P ρ h (r :: l) = consL (resO P ρ h r) (resL P ρ h l) := rfl
theorem resO_tmp (t : Nat) : resO P ρ h (.tmp t) = get ρ t := rfl
theorem resO_cell (s : Nat) (t : TypeId) : resO P ρ h (.cell s t) = oRd P h t (oAddr (get ρ s)) := rfl
theorem oAddr_some (p : Value) : oAddr (some p) = addrOf p := rfl
theorem oRd_some (t : TypeId) (a : Addr) : oRd P h t (some a) = rdVar P h t a := rfl
theorem one_one (v : Value) : one [v] = v := rfl
theorem one_two (v u : Value) : one [v, u] = .tuple #[v, u] := rfl
theorem one_three (v u x : Value) : one [v, u, x] = .tuple #[v, u, x] := rfl
theorem one_four (v u x y : Value) : one [v, u, x, y] = .tuple #[v, u, x, y] := rfl
theorem addrOf_some (a : Addr) : addrOf (.pointer (some a)) = some a := rfl
theorem addr_add (b o i : Nat) : (⟨b, o, none⟩ : Addr).add i = ⟨b, o + i, none⟩ := by
  unfold Addr.add; split
  · rename_i h; subst h; rfl
  · rfl
end
section
variable (P : Program) (t : TypeId) (k : IntKind) (a b : Int) (x y : ByteArray) (K : Value → Prop)
theorem bin_add : binW P .add t (.int k a) (.int k b) K = K (.int k (k.wrap (a + b))) := by simp [binW, need]
theorem bin_sub : binW P .sub t (.int k a) (.int k b) K = K (.int k (k.wrap (a - b))) := by simp [binW, need]
theorem bin_mul : binW P .mul t (.int k a) (.int k b) K = K (.int k (k.wrap (a * b))) := by simp [binW, need]
theorem bin_quo : binW P .quo t (.int k a) (.int k b) K = need (b ≠ 0) (K (.int k (k.wrap (a.tdiv b)))) := by simp [binW, need]
theorem bin_rem : binW P .rem t (.int k a) (.int k b) K = need (b ≠ 0) (K (.int k (a.tmod b))) := by simp [binW, need]
theorem bin_eql : binW P .eql t (.int k a) (.int k b) K = K (.bool (a == b)) := by simp [binW, need]
theorem bin_neq : binW P .neq t (.int k a) (.int k b) K = K (.bool (a != b)) := by simp [binW, need]
theorem bin_lss : binW P .lss t (.int k a) (.int k b) K = K (.bool (decide (a < b))) := by simp [binW, need]
theorem bin_leq : binW P .leq t (.int k a) (.int k b) K = K (.bool (decide (a ≤ b))) := by simp [binW, need]
theorem bin_gtr : binW P .gtr t (.int k a) (.int k b) K = K (.bool (decide (b < a))) := by simp [binW, need]
theorem bin_geq : binW P .geq t (.int k a) (.int k b) K = K (.bool (decide (b ≤ a))) := by simp [binW, need]
theorem bin_and : binW P .and t (.int k a) (.int k b) K = K (.int k (k.wrap (BitVec.ofInt k.bits a &&& BitVec.ofInt k.bits b).toNat)) := by simp [binW, need]
theorem bin_or : binW P .or t (.int k a) (.int k b) K = K (.int k (k.wrap (BitVec.ofInt k.bits a ||| BitVec.ofInt k.bits b).toNat)) := by simp [binW, need]
theorem bin_shl (k' : IntKind) : binW P .shl t (.int k a) (.int k' b) K = need (0 ≤ b) (K (.int k (k.wrap (a * 2 ^ (min b.toNat k.bits))))) := rfl
theorem bin_shr (k' : IntKind) : binW P .shr t (.int k a) (.int k' b) K = need (0 ≤ b) (K (.int k (a.fdiv (2 ^ (min b.toNat k.bits))))) := rfl
theorem bin_sadd : binW P .add t (.string x) (.string y) K = need (x.size + y.size ≤ 9223372036854775807) (K (.string (x ++ y))) := rfl
theorem bin_seql : binW P .eql t (.string x) (.string y) K = K (.bool (x.toList == y.toList)) := rfl
theorem bin_sneq : binW P .neq t (.string x) (.string y) K = K (.bool (!(x.toList == y.toList))) := rfl
theorem bin_slss : binW P .lss t (.string x) (.string y) K = K (.bool (Op.bytesLess x.toList y.toList)) := rfl
theorem bin_sleq : binW P .leq t (.string x) (.string y) K = K (.bool (Op.bytesLess x.toList y.toList || x.toList == y.toList)) := rfl
theorem bin_sgtr : binW P .gtr t (.string x) (.string y) K = K (.bool (!(Op.bytesLess x.toList y.toList || x.toList == y.toList))) := rfl
theorem bin_sgeq : binW P .geq t (.string x) (.string y) K = K (.bool (!(Op.bytesLess x.toList y.toList))) := rfl
end
section
variable (P : Program) (t : TypeId) (K : Value → Prop)
theorem bin_beql (a b : Bool) : binW P .eql t (.bool a) (.bool b) K = bnd (eqV P 10000 t (.bool a) (.bool b)) fun b => K (.bool (b)) := by
  show need (eqOk P t (.bool a) (.bool b) = true) _ = _
  rw [show (eqOk P t (.bool a) (.bool b) = true) = True from eq_true rfl, need_true]
theorem bin_bneq (a b : Bool) : binW P .neq t (.bool a) (.bool b) K = bnd (eqV P 10000 t (.bool a) (.bool b)) fun b => K (.bool (!b)) := by
  show need (eqOk P t (.bool a) (.bool b) = true) _ = _
  rw [show (eqOk P t (.bool a) (.bool b) = true) = True from eq_true rfl, need_true]
theorem bin_peql (p q : Option Addr) : binW P .eql t (.pointer p) (.pointer q) K = bnd (eqV P 10000 t (.pointer p) (.pointer q)) fun b => K (.bool (b)) := by
  show need (eqOk P t (.pointer p) (.pointer q) = true) _ = _
  rw [show (eqOk P t (.pointer p) (.pointer q) = true) = True from eq_true rfl, need_true]
theorem bin_pneq (p q : Option Addr) : binW P .neq t (.pointer p) (.pointer q) K = bnd (eqV P 10000 t (.pointer p) (.pointer q)) fun b => K (.bool (!b)) := by
  show need (eqOk P t (.pointer p) (.pointer q) = true) _ = _
  rw [show (eqOk P t (.pointer p) (.pointer q) = true) = True from eq_true rfl, need_true]
theorem bin_sleql (p q : Option Addr) (n m n' m' : Nat) : binW P .eql t (.slice p n m) (.slice q n' m') K = bnd (eqV P 10000 t (.slice p n m) (.slice q n' m')) fun b => K (.bool (b)) := by
  show need (eqOk P t (.slice p n m) (.slice q n' m') = true) _ = _
  rw [show (eqOk P t (.slice p n m) (.slice q n' m') = true) = True from eq_true rfl, need_true]
theorem bin_slneq (p q : Option Addr) (n m n' m' : Nat) : binW P .neq t (.slice p n m) (.slice q n' m') K = bnd (eqV P 10000 t (.slice p n m) (.slice q n' m')) fun b => K (.bool (!b)) := by
  show need (eqOk P t (.slice p n m) (.slice q n' m') = true) _ = _
  rw [show (eqOk P t (.slice p n m) (.slice q n' m') = true) = True from eq_true rfl, need_true]
theorem bin_meql (p q : Option Nat) : binW P .eql t (.map p) (.map q) K = bnd (eqV P 10000 t (.map p) (.map q)) fun b => K (.bool (b)) := by
  show need (eqOk P t (.map p) (.map q) = true) _ = _
  rw [show (eqOk P t (.map p) (.map q) = true) = True from eq_true rfl, need_true]
theorem bin_mneq (p q : Option Nat) : binW P .neq t (.map p) (.map q) K = bnd (eqV P 10000 t (.map p) (.map q)) fun b => K (.bool (!b)) := by
  show need (eqOk P t (.map p) (.map q) = true) _ = _
  rw [show (eqOk P t (.map p) (.map q) = true) = True from eq_true rfl, need_true]
theorem bin_aeql (xs ys : Array Value) : binW P .eql t (.agg xs) (.agg ys) K = need (P.eqGuardType P.depth t = false) (bnd (eqV P 10000 t (.agg xs) (.agg ys)) fun b => K (.bool (b))) := by
  show need (eqOk P t (.agg xs) (.agg ys) = true) _ = _
  rw [show (eqOk P t (.agg xs) (.agg ys) = true) = (P.eqGuardType P.depth t = false) from by simp [eqOk]]
theorem bin_aneq (xs ys : Array Value) : binW P .neq t (.agg xs) (.agg ys) K = need (P.eqGuardType P.depth t = false) (bnd (eqV P 10000 t (.agg xs) (.agg ys)) fun b => K (.bool (!b))) := by
  show need (eqOk P t (.agg xs) (.agg ys) = true) _ = _
  rw [show (eqOk P t (.agg xs) (.agg ys) = true) = (P.eqGuardType P.depth t = false) from by simp [eqOk]]
end
section
variable (P : Program) (t : TypeId) (d : Nat) (a b : Int) (k : IntKind)
def eqS (P : Program) (d : Nat) (t : TypeId) (u : Option TypeDesc) (x y : Value) : Option Bool :=
  match u, x, y with
    | some .bool, .bool a, .bool b => some (a == b)
    | some (.int _), .int k a, .int k' b => if k = k' then some (a == b) else none
    | some .string, .string a, .string b => some (a.toList == b.toList)
    | some (.pointer _), .pointer none, .pointer b => some b.isNone
    | some (.pointer _), .pointer (some _), .pointer none => some false
    | some (.pointer te), .pointer (some a), .pointer (some b) => if a = b ∧ (P.info? te).isSome = true then some true else none
    | some (.slice _), .slice none _ _, .slice b _ _ => some b.isNone
    | some (.slice _), .slice (some _) _ _, .slice none _ _ => some false
    | some (.map _ _), .map none, .map b => some b.isNone
    | some (.map _ _), .map (some _), .map none => some false
    | some (.struct fs), .agg xs, .agg ys => eqT P d xs ys fs.toList (P.stoodInHeld t)
    | some (.array len te), .agg xs, .agg ys => eqAO P (eqV P d) te len xs ys (P.info? te)
    | _, _, _ => none
where
  eqT (P : Program) (d : Nat) (xs ys : Array Value) (fs : List Field) (b : Bool) : Option Bool := if b then none else eqF P (eqV P d) xs ys fs
theorem eqV_eq (x y : Value) : eqV P (d + 1) t x y = eqS P d t (P.underlying t) x y := rfl
theorem eqS_bool (x y : Bool) : eqS P d t (some .bool) (.bool x) (.bool y) = some (x == y) := rfl
theorem eqS_int (k' : IntKind) : eqS P d t (some (.int k')) (.int k a) (.int k b) = some (a == b) := by simp [eqS]
theorem eqS_str (x y : ByteArray) : eqS P d t (some .string) (.string x) (.string y) = some (x.toList == y.toList) := rfl
theorem eqS_ptrN (e : TypeId) (q : Option Addr) : eqS P d t (some (.pointer e)) (.pointer none) (.pointer q) = some q.isNone := rfl
theorem eqS_ptr (e : TypeId) (q : Option Addr) : eqS P d t (some (.pointer e)) (.pointer q) (.pointer none) = some q.isNone := by cases q <;> rfl
theorem eqS_slcN (e : TypeId) (q : Option Addr) (n m n' m' : Nat) : eqS P d t (some (.slice e)) (.slice none n m) (.slice q n' m') = some q.isNone := rfl
theorem eqS_slc (e : TypeId) (q : Option Addr) (n m n' m' : Nat) : eqS P d t (some (.slice e)) (.slice q n m) (.slice none n' m') = some q.isNone := by cases q <;> rfl
theorem eqS_mapN (e e' : TypeId) (q : Option Nat) : eqS P d t (some (.map e e')) (.map none) (.map q) = some q.isNone := rfl
theorem eqS_map (e e' : TypeId) (q : Option Nat) : eqS P d t (some (.map e e')) (.map q) (.map none) = some q.isNone := by cases q <;> rfl
theorem eqS_agg (fs : List Field) (xs ys : Array Value) : eqS P d t (some (.struct fs.toArray)) (.agg xs) (.agg ys) = eqS.eqT P d xs ys fs (P.stoodInHeld t) := rfl
theorem eqT_false (fs : List Field) (xs ys : Array Value) : eqS.eqT P d xs ys fs false = eqF P (eqV P d) xs ys fs := rfl
theorem eqF_nil (eq : TypeId → Value → Value → Option Bool) (xs ys : Array Value) : eqF P eq xs ys [] = some true := rfl
theorem eqF_cons (eq : TypeId → Value → Value → Option Bool) (xs ys : Array Value) (nm : String) (ft : TypeId) (off : Nat) (em : Bool) (tag pkg : String) (bo : Nat) (l : List Field) :
    eqF P eq xs ys (⟨nm, ft, off, em, tag, pkg, bo⟩ :: l) = if nm = "_" then eqF P eq xs ys l else andO (eqP eq ft (partV P ft xs off) (partV P ft ys off)) (eqF P eq xs ys l) := rfl
theorem eqP_some (eq : TypeId → Value → Value → Option Bool) (x y : Value) : eqP eq t (some x) (some y) = eq t x y := rfl
theorem andO_some (x y : Bool) : andO (some x) (some y) = some (x && y) := rfl
def partS (s : Option (Bool × Nat)) (cs : Array Value) (off : Nat) : Option Value := match s with
  | some (true, n) => some (.agg (cs.extract off (off + n)))
  | some (false, _) => cs[off]?
  | none => none
theorem partV_eq (cs : Array Value) (off : Nat) : partV P t cs off = partS (shp P t) cs off := rfl
theorem partS_agg (cs : Array Value) (off n : Nat) : partS (some (true, n)) cs off = some (.agg (cs.extract off (off + n))) := rfl
theorem partS_one (cs : Array Value) (off n : Nat) : partS (some (false, n)) cs off = cs[off]? := rfl
theorem unV_neg : unV .neg (.int k a) = some (.int k (k.wrap (0 - a))) := rfl
theorem unV_not (x : Bool) : unV .not (.bool x) = some (.bool (!x)) := rfl
def cnvS (P : Program) (s d : TypeId) (us ud : Option TypeDesc) (x : Value) (h : Heap) (K : Value → Heap → Prop) : Prop :=
  match us, ud with
  | some _, some (.int k) => match x with
    | .int _ n => K (.int k (k.wrap n)) h
    | _ => False
  | some (.int _), some .string => match x with
    | .int _ n => K (.string (Utf8.encode n)) h
    | _ => False
  | some .string, some .string => match x with
    | .string b => K (.string b) h
    | _ => False
  | _, _ => RunW P (convert s d x) h K
@[congr] theorem cnvS_congr {P : Program} {s d : TypeId} {us us' ud ud' : Option TypeDesc} {x : Value} {h : Heap} {K : Value → Heap → Prop} (h1 : us = us') (h2 : ud = ud') : cnvS P s d us ud x h K = cnvS P s d us' ud' x h K := by rw [h1, h2]
theorem cnvW_eq (s dd : TypeId) (x : Value) (h : Heap) (K : Value → Heap → Prop) : cnvW P s dd x h K = cnvS P s dd (P.underlying s) (P.underlying dd) x h K := rfl
theorem cnvS_int (s dd : TypeId) (k' : IntKind) (ds : TypeDesc) (h : Heap) (K : Value → Heap → Prop) : cnvS P s dd (some ds) (some (.int k)) (.int k' a) h K = K (.int k (k.wrap a)) h := by cases ds <;> rfl
theorem cnvS_rune (s dd : TypeId) (k' : IntKind) (h : Heap) (K : Value → Heap → Prop) : cnvS P s dd (some (.int k)) (some .string) (.int k' a) h K = K (.string (Utf8.encode a)) h := rfl
theorem cnvS_str (s dd : TypeId) (x : ByteArray) (h : Heap) (K : Value → Heap → Prop) : cnvS P s dd (some .string) (some .string) (.string x) h K = K (.string x) h := rfl
theorem cnvS_bytes (s dd e : TypeId) (x : Value) (h : Heap) (K : Value → Heap → Prop) : cnvS P s dd (some .string) (some (.slice e)) x h K = RunW P (convert s dd x) h K := rfl
theorem cnvS_unbytes (s dd e : TypeId) (x : Value) (h : Heap) (K : Value → Heap → Prop) : cnvS P s dd (some (.slice e)) (some .string) x h K = RunW P (convert s dd x) h K := rfl
def lenS (u : Option TypeDesc) (x : ByteArray) (K : Value → Prop) : Prop := need (u = some .string) (K (.int .i64 x.size))
@[congr] theorem lenS_congr {u u' : Option TypeDesc} {x : ByteArray} {K : Value → Prop} (h1 : u = u') : lenS u x K = lenS u' x K := by rw [h1]
theorem len_str (x : ByteArray) (h : Heap) (K : Value → Prop) : lenW P t (.string x) h K = lenS (P.underlying t) x K := rfl
theorem lenS_str (x : ByteArray) (K : Value → Prop) : lenS (some .string) x K = K (.int .i64 x.size) := by simp [lenS, need]
theorem len_slc (p : Option Addr) (n m : Nat) (h : Heap) (K : Value → Prop) : lenW P t (.slice p n m) h K = bnd (slc P t) fun _ => K (.int .i64 n) := rfl
def lenM (u : Option TypeDesc) (o : Option Obj) (K : Value → Prop) : Prop := match u, o with | some (.map _ _), some (.map es _) => K (.int .i64 es.size) | _, _ => False
@[congr] theorem lenM_congr {u u' : Option TypeDesc} {o o' : Option Obj} {K : Value → Prop} (h1 : u = u') (h2 : o = o') : lenM u o K = lenM u' o' K := by rw [h1, h2]
theorem len_map (r : Nat) (h : Heap) (K : Value → Prop) : lenW P t (.map (some r)) h K = lenM (P.underlying t) h[r]? K := rfl
theorem lenM_map (x y : TypeId) (es : Array MapEntry) (cl : Nat) (K : Value → Prop) : lenM (some (.map x y)) (some (.map es cl)) K = K (.int .i64 es.size) := rfl
def idxS (u : Option TypeDesc) (x : ByteArray) (n : Int) (K : Value → Prop) : Prop := need (u = some .string ∧ 0 ≤ n) (bnd x.data[n.toNat]? fun b => K (.int .u8 b.toNat))
@[congr] theorem idxS_congr {u u' : Option TypeDesc} {x : ByteArray} {n : Int} {K : Value → Prop} (h1 : u = u') : idxS u x n K = idxS u' x n K := by rw [h1]
theorem idx_str (x : ByteArray) (K : Value → Prop) : idxW P t (.string x) (.int k a) K = idxS (P.underlying t) x a K := rfl
theorem idxS_str (x : ByteArray) (K : Value → Prop) : idxS (some .string) x a K = need (0 ≤ a) (bnd x.data[a.toNat]? fun b => K (.int .u8 b.toNat)) := by simp [idxS]
theorem ixa_slc (p : Addr) (n m : Nat) (K : Value → Prop) : ixaW P t (.slice (some p) n m) (.int k a) K = bnd (slc P t) fun e => need (0 ≤ a ∧ a < n) (K (.pointer (some (p.add (a.toNat * e.2.1))))) := rfl
theorem boundN_none (n : Nat) : boundN none n = some (n : Int) := rfl
theorem boundN_some (n : Nat) : boundN (some (.int k a)) n = some a := rfl
def slS (u : Option TypeDesc) (x : ByteArray) (l r : Int) (K : Value → Prop) : Prop := need (u = some .string ∧ 0 ≤ l ∧ l ≤ r ∧ r ≤ x.size) (K (.string (x.extract l.toNat r.toNat)))
@[congr] theorem slS_congr {u u' : Option TypeDesc} {x : ByteArray} {l r : Int} {K : Value → Prop} (h1 : u = u') : slS u x l r K = slS u' x l r K := by rw [h1]
theorem sl_str (x : ByteArray) (lo hi : Option Value) (K : Value → Prop) : slW P t (.string x) lo hi K = bnd (boundN lo 0) fun l => bnd (boundN hi x.size) fun r => slS (P.underlying t) x l r K := rfl
theorem slS_str (x : ByteArray) (l r : Int) (K : Value → Prop) : slS (some .string) x l r K = need (0 ≤ l ∧ l ≤ r ∧ r ≤ x.size) (K (.string (x.extract l.toNat r.toNat))) := by simp [slS]
theorem sl_slc (p : Option Addr) (n m : Nat) (lo hi : Option Value) (K : Value → Prop) : slW P t (.slice p n m) lo hi K =
    bnd (slc P t) fun e => bnd (boundN lo 0) fun l => bnd (boundN hi n) fun r => need (0 ≤ l ∧ l ≤ r ∧ r ≤ m) (K (.slice (if m = l.toNat then p else p.map (·.add (l.toNat * e.2.1))) (r.toNat - l.toNat) (m - l.toNat))) := rfl
def rdS (s : Option (Bool × Nat)) (h : Heap) (p : Addr) : Option Value := match s with
  | some (true, n) => aggO (rdCells h p n)
  | some (false, _) => cellH h p
  | none => none
theorem rdVar_eq (h : Heap) (p : Addr) : rdVar P h t p = rdS (shp P t) h p := rfl
theorem rdS_agg (h : Heap) (p : Addr) (n : Nat) : rdS (some (true, n)) h p = aggO (rdCells h p n) := rfl
theorem rdS_one (h : Heap) (p : Addr) (n : Nat) : rdS (some (false, n)) h p = cellH h p := rfl
theorem aggO_some (c : Array Value) : aggO (some c) = some (.agg c) := rfl
def cellS (o : Option Obj) (i : Nat) : Option Value := match o with | some (.cells c _ _) => c[i]? | _ => none
theorem cellH_eq (h : Heap) (g o : Nat) : cellH h ⟨g, o, none⟩ = cellS h[g]? o := rfl
theorem cellS_cells (c : Array Value) (e : TypeId) (fr : Nat × Nat) (o : Nat) : cellS (some (.cells c e fr)) o = c[o]? := rfl
def rdCS (b : Option Obj) (o n : Nat) : Option (Array Value) := match b with | some (.cells c _ _) => if o + n ≤ c.size then some (c.extract o (o + n)) else none | _ => none
theorem rdCells_eq (h : Heap) (g o n : Nat) : rdCells h ⟨g, o, none⟩ n = rdCS h[g]? o n := by
  unfold rdCells rdCS; simp; rfl
theorem rdCS_cells (c : Array Value) (e : TypeId) (fr : Nat × Nat) (o n : Nat) : rdCS (some (.cells c e fr)) o n = if o + n ≤ c.size then some (c.extract o (o + n)) else none := rfl
def wrS (h : Heap) (g : Nat) (b : Option Obj) (o : Nat) (vs : List Value) : Option Heap := match b with
  | some (.cells c e fr) => if o + vs.length ≤ c.size ∧ (fr.2 ≤ o ∨ o + vs.length ≤ fr.1) ∧ okCells vs = true then some (h.setIfInBounds g (.cells (splice c o vs) e fr)) else none
  | _ => none
theorem wrCells_eq (h : Heap) (g o : Nat) (vs : List Value) : wrCells h ⟨g, o, none⟩ vs = wrS h g h[g]? o vs := by
  unfold wrCells wrS; simp; rfl
theorem wrS_cells (h : Heap) (g : Nat) (c : Array Value) (e : TypeId) (o : Nat) (vs : List Value) : wrS h g (some (.cells c e (0, 0))) o vs =
    if o + vs.length ≤ c.size ∧ okCells vs = true then some (h.setIfInBounds g (.cells (splice c o vs) e)) else none := by simp [wrS]
theorem splice_nil (c : Array Value) (o : Nat) : splice c o [] = c := rfl
theorem splice_cons (c : Array Value) (o : Nat) (v : Value) (l : List Value) : splice c o (v :: l) = splice (c.setIfInBounds o v) (o + 1) l := rfl
theorem okCells_nil : okCells [] = true := rfl
theorem okCells_cons (v : Value) (l : List Value) : okCells (v :: l) = (v.oneCell' && okCells l) := rfl
theorem bldV_eq (vs : List (Nat × Value)) : bldV P t vs = bldS P t (bldOk P t) (zro P t) vs := rfl
theorem bldS_true (z : Value) (vs : List (Nat × Value)) : bldS P t true (some z) vs = aggO (bldF P t z.cells vs) := rfl
def bldG (P : Program) (t : TypeId) (c : Array Value) (v : Value) (l : List (Nat × Value)) (f : Option (Nat × Bool × Nat)) : Option (Array Value) := match f with
  | some (off, _, n) => if v.cells.size = n ∧ off + n ≤ c.size then bldF P t (splice c off v.cells.toList) l else none
  | none => none
theorem bldF_nil (c : Array Value) : bldF P t c [] = some c := rfl
theorem bldF_cons (c : Array Value) (i : Nat) (v : Value) (l : List (Nat × Value)) : bldF P t c ((i, v) :: l) = bldG P t c v l (fld P t i) := by
  unfold bldF bldG; rfl
theorem bldG_some (c : Array Value) (v : Value) (l : List (Nat × Value)) (off n : Nat) (g : Bool) : bldG P t c v l (some (off, g, n)) = if v.cells.size = n ∧ off + n ≤ c.size then bldF P t (splice c off v.cells.toList) l else none := rfl
def fldS (x : Value) (f : Option (Nat × Bool × Nat)) : Option Value := match x, f with
  | .agg cs, some (off, true, n) => some (.agg (cs.extract off (off + n)))
  | .agg cs, some (off, false, _) => cs[off]?
  | _, _ => none
theorem fldV_eq (x : Value) (i : Nat) : fldV P t i x = fldS x (fld P t i) := rfl
theorem fldS_agg (c : Array Value) (off n : Nat) : fldS (.agg c) (some (off, true, n)) = some (.agg (c.extract off (off + n))) := rfl
theorem fldS_one (c : Array Value) (off n : Nat) : fldS (.agg c) (some (off, false, n)) = c[off]? := rfl
theorem one_bool (x : Bool) : (Value.bool x).oneCell' = true := rfl
theorem one_int (k : IntKind) (n : Int) : (Value.int k n).oneCell' = true := rfl
theorem one_string (s : ByteArray) : (Value.string s).oneCell' = true := rfl
theorem one_pointer (p : Option Addr) : (Value.pointer p).oneCell' = true := rfl
theorem one_slice (p : Option Addr) (n m : Nat) : (Value.slice p n m).oneCell' = true := rfl
theorem one_map (p : Option Nat) : (Value.map p).oneCell' = true := rfl
theorem one_func (f : Fn) (x y : Array Value) : (Value.func f x y).oneCell' = true := rfl
theorem cells_agg (c : Array Value) : (Value.agg c).cells = c := rfl
theorem cells_int (k : IntKind) (n : Int) : (Value.int k n).cells = #[.int k n] := rfl
theorem cells_bool (x : Bool) : (Value.bool x).cells = #[.bool x] := rfl
theorem cells_string (s : ByteArray) : (Value.string s).cells = #[.string s] := rfl
theorem cells_pointer (p : Option Addr) : (Value.pointer p).cells = #[.pointer p] := rfl
theorem cells_slice (p : Option Addr) (n m : Nat) : (Value.slice p n m).cells = #[.slice p n m] := rfl
theorem cells_map (p : Option Nat) : (Value.map p).cells = #[.map p] := rfl
theorem cells_func (f : Fn) (x y : Array Value) : (Value.func f x y).cells = #[.func f x y] := rfl
end
theorem ifB_def (b : Bool) (A B : Prop) : ifB b A B = if b = true then A else B := by cases b <;> simp [ifB]
theorem denX_some [dd : DefD] (c : Cx) (k : List It) (ρ : Env) (h : Heap) : denX c (some k) ρ h = den c k ρ h := rfl
@[congr] theorem denX_congr [dd : DefD] {c : Cx} {k k' : Option (List It)} {ρ : Env} {h : Heap} (e : k = k') : denX c k ρ h = denX c k' ρ h := by rw [e]
theorem exitK_blk (id : Nat) (k : List It) : exitK id (.blk id :: k) = some k := by simp [exitK]
theorem exitK_blkN (id i : Nat) (k : List It) (hne : ¬ i = id) : exitK id (.blk i :: k) = exitK id k := by simp [exitK, hne]
theorem exitK_code (id : Nat) (x : Code) (k : List It) : exitK id (.code x :: k) = exitK id k := rfl
theorem exitK_lp (id : Nat) (x : Code) (k : List It) : exitK id (.lp x :: k) = exitK id k := rfl
theorem exitK_sc (id : Nat) (x : Code) (k : List It) : exitK id (.sc x :: k) = exitK id k := rfl
section
variable (P : Program) (n : Nat) (all : List Oper) (m : Nat) (ρ : Env) (h : Heap) (K : Env → Heap → Prop) (X : List PanicEntry → Heap → Prop)
variable (dst : Option Nat) (ty : TypeId) (pos : String) (aft : Array Edge) (gd : Option (Nat × Bool)) (rest : List Oper)
def grpP (cur : Option (Nat × Bool)) (j : Nat) (want : Bool) (g after : List Oper) (s : Nat) (b : Bool) (pure : Bool) : Prop :=
  match pure, after with
  | true, p :: after' => match closes want s p.op with
    | some y => denOps P n all m (some (j, want)) g ρ h (fun ρ' h' => bnd (evO ρ' y) fun c => joinK n p.dst want b c (hid g ρ) fun ρ'' => denOps P n all m cur after' ρ'' h' K X) X
    | none => False
  | _, after => ifB (b == want) (denOps P n all m (some (j, want)) g ((s, some (.bool want)) :: ρ) h (fun ρ' h' => denOps P n all m cur after ρ' h' K X) X) (denOps P n all m cur after (hid g ((s, some (.bool (!want))) :: ρ)) h K X)
@[congr] theorem grpP_congr {P : Program} {n : Nat} {all : List Oper} {m : Nat} {ρ : Env} {h : Heap} {K : Env → Heap → Prop} {X : List PanicEntry → Heap → Prop} {cur : Option (Nat × Bool)} {j : Nat} {want : Bool} {g g' after after' : List Oper} {s : Nat} {b pu pu' : Bool} (h1 : g = g') (h2 : after = after') (h3 : pu = pu') :
    grpP P n all m ρ h K X cur j want g after s b pu = grpP P n all m ρ h K X cur j want g' after' s b pu' := by rw [h1, h2, h3]
theorem grpW_eq (cur : Option (Nat × Bool)) (j : Nat) (want : Bool) (g after : List Oper) (s : Nat) (b : Bool) : grpW P n all m ρ h K X cur j want g after s b = need (grpOk all s j want [] g = true) (grpP P n all m ρ h K X cur j want g after s b (pureG g)) := rfl
theorem grpP_no (cur : Option (Nat × Bool)) (j : Nat) (want : Bool) (g after : List Oper) (s : Nat) (b : Bool) : grpP P n all m ρ h K X cur j want g after s b false =
    ifB (b == want) (denOps P n all m (some (j, want)) g ((s, some (.bool want)) :: ρ) h (fun ρ' h' => denOps P n all m cur after ρ' h' K X) X) (denOps P n all m cur after (hid g ((s, some (.bool (!want))) :: ρ)) h K X) := rfl
theorem grpP_or (cur : Option (Nat × Bool)) (j : Nat) (g after : List Oper) (s : Nat) (b : Bool) (y : Operand) : grpP P n all m ρ h K X cur j false g (⟨dst, .pick (.tmp s) (.const (.bool true)) y, ty, pos, aft, gd⟩ :: after) s b true =
    denOps P n all m (some (j, false)) g ρ h (fun ρ' h' => bnd (evO ρ' y) fun c => joinK n dst false b c (hid g ρ) fun ρ'' => denOps P n all m cur after ρ'' h' K X) X := by simp [grpP, closes]
theorem grpP_and (cur : Option (Nat × Bool)) (j : Nat) (g after : List Oper) (s : Nat) (b : Bool) (y : Operand) : grpP P n all m ρ h K X cur j true g (⟨dst, .pick (.tmp s) y (.const (.bool false)), ty, pos, aft, gd⟩ :: after) s b true =
    denOps P n all m (some (j, true)) g ρ h (fun ρ' h' => bnd (evO ρ' y) fun c => joinK n dst true b c (hid g ρ) fun ρ'' => denOps P n all m cur after ρ'' h' K X) X := by simp [grpP, closes]
end
theorem mem_consN (a b : Nat) (l : List Nat) : (a ∈ b :: l) = (a = b ∨ a ∈ l) := by simp
theorem not_memN (a : Nat) : (a ∈ ([] : List Nat)) = False := by simp
theorem grpOk_nil (all : List Oper) (s j : Nat) (want : Bool) (sk : List Nat) : grpOk all s j want sk [] = true := by simp [grpOk]
theorem grpOk_cons (all : List Oper) (s j : Nat) (want : Bool) (sk : List Nat) (d j' : Nat) (w' : Bool) (op : Op) (ty : TypeId) (pos : String) (aft : Array Edge) (l : List Oper) : grpOk all s j want sk (⟨some d, op, ty, pos, aft, some (j', w')⟩ :: l) =
    if d = s then false else if j' = j ∧ w' = want then grpOk all s j want (d :: sk) l else grpS all s j want sk d l (slotOf all j') := by
  simp only [grpOk, grpS]; cases slotOf all j' <;> rfl
theorem grpS_some (all : List Oper) (s j : Nat) (want : Bool) (sk : List Nat) (d s' : Nat) (l : List Oper) : grpS all s j want sk d l (some s') = if s' ∈ sk then grpOk all s j want (d :: sk) l else false := rfl
theorem hid_nil (ρ : Env) : hid [] ρ = ρ := rfl
theorem hid_some (d : Nat) (op : Op) (ty : TypeId) (pos : String) (aft : Array Edge) (gd : Option (Nat × Bool)) (l : List Oper) (ρ : Env) : hid (⟨some d, op, ty, pos, aft, gd⟩ :: l) ρ = hid l ((d, none) :: ρ) := rfl
theorem pure_move (x : Operand) : pureOp (.move x) = true := rfl
theorem pure_pick (x a b : Operand) : pureOp (.pick x a b) = true := rfl
theorem pure_extract (x : Operand) (i : Nat) : pureOp (.extract x i) = true := rfl
theorem pure_unOp (op : UnOp) (t : TypeId) (x : Operand) : pureOp (.unOp op t x) = true := rfl
theorem pure_len (xs : Array Operand) (ts : Array TypeId) : pureOp (.call ⟨.builtin .len, xs, ts⟩) = true := rfl
def pureB (op : BinOp) : Bool := match op with | .quo | .rem | .shl | .shr => false | _ => true
theorem pure_binOp (op : BinOp) (t : TypeId) (x y : Operand) (t' : TypeId) : pureOp (.binOp op t x y t') = pureB op := rfl
theorem pureB_eql : pureB .eql = true := rfl
theorem pureB_neq : pureB .neq = true := rfl
theorem pureB_lss : pureB .lss = true := rfl
theorem pureB_leq : pureB .leq = true := rfl
theorem pureB_gtr : pureB .gtr = true := rfl
theorem pureB_geq : pureB .geq = true := rfl
theorem pureB_add : pureB .add = true := rfl
theorem pureB_sub : pureB .sub = true := rfl
theorem pureB_mul : pureB .mul = true := rfl
theorem pureB_and : pureB .and = true := rfl
theorem pureB_or : pureB .or = true := rfl
theorem pureB_quo : pureB .quo = false := rfl
theorem pureB_rem : pureB .rem = false := rfl
theorem pure_load (t : TypeId) (x : Operand) : pureOp (.load t x) = false := rfl
theorem pure_index (t : TypeId) (x y : Operand) : pureOp (.index t x y) = false := rfl
theorem pure_indexAddr (t : TypeId) (x y : Operand) : pureOp (.indexAddr t x y) = false := rfl
theorem pure_fieldAddr (t : TypeId) (x : Operand) (i : Nat) : pureOp (.fieldAddr t x i) = false := rfl
theorem pure_field (t : TypeId) (x : Operand) (i : Nat) : pureOp (.field t x i) = false := rfl
theorem pure_nilCheck (x : Operand) : pureOp (.nilCheck x) = false := rfl
theorem pure_call (f : Operand) (xs : Array Operand) (ts : Array TypeId) : pureOp (.call ⟨.value f, xs, ts⟩) = false := rfl
theorem pure_slice (t : TypeId) (x : Operand) (a b c : Option Operand) : pureOp (.slice t x a b c) = false := rfl
theorem pure_convert (t t' : TypeId) (x : Operand) : pureOp (.convert t t' x) = false := rfl
theorem pure_lookup (t : TypeId) (x y : Operand) (ok : Bool) : pureOp (.lookup t x y ok) = false := rfl
theorem pure_build (t : TypeId) (ps : Array (Nat × Operand)) : pureOp (.build t ps) = false := rfl
theorem pure_alloc (t : TypeId) : pureOp (.alloc t) = false := rfl
theorem pure_box (t : TypeId) (x : Operand) : pureOp (.box t x) = false := rfl
theorem pure_assign (x : Operand) : pureOp (.assign x) = false := rfl
theorem vmD : type_of% (An @sl_slc (An @slS_str (An @sl_str (An @ixa_slc (An @idxS_str (An @idx_str (An @lenM_map (An @len_map (An @len_slc (An @lenS_str (An @len_str (An @cnvS_unbytes (An @cnvS_bytes (An @cnvS_str (An @cnvS_rune (An @cnvS_int (An @cnvW_eq (An @den_nil (An @den_blk (An @den_sc (An @den_lp (An @den_skip (An @den_label (An @den_ret (An @den_seq (An @den_cond (An @den_block (An @den_scope (An @den_loop (An @den_region (An @den_regionD (An @den_exit (An @denX_some (An @denOps_nil (An @denOps_plain (An @denOps_in (An @denOps_grp0 (An @denOps_grp (An @grpV_bool (An @putK_some (An @putK_none (An @RetK_ret (An @RetK_pan (An @joinK_bool (An @callW_func (An @retW_eq (An @ifV_bool (An @panW_iface (An @exW_zero (An @exW_succ (An @grpW_eq (An @st_move (An @st_assign (An @st_pick (An @st_alloc (An @st_box (An @st_build (An @st_buildSlice (An @st_load (An @st_store (An @st_nilCheck (An @st_binOp (An @st_unOp (An @st_convert (An @st_makeInterface (An @st_makeFunc (An @st_makeMap (An @st_makeSlice (An @st_slice (An @st_fieldAddr (An @st_field (An @st_indexAddr (An @st_index (An @st_lookup (An @st_mapUpdate (An @st_insert (An @st_range (An @st_next (An @st_typeAssert (An @st_extract (An @st_len (An @st_append (An @st_cap (An @st_copy (An @st_delete (An @st_call (An @st_panic (An @bin_add (An @bin_sub (An @bin_mul (An @bin_quo (An @bin_rem (An @bin_eql (An @bin_neq (An @bin_lss (An @bin_leq (An @bin_gtr (An @bin_geq (An @bin_and (An @bin_or (An @bin_shl (An @bin_shr (An @bin_sadd (An @bin_seql (An @bin_sneq (An @bin_slss (An @bin_sleq (An @bin_sgtr (An @bin_sgeq (An @bin_beql (An @bin_bneq (An @bin_peql (An @bin_pneq (An @bin_sleql (An @bin_slneq (An @bin_meql (An @bin_mneq (An @bin_aeql @bin_aneq)))))))))))))))))))))))))))))))))))))))))))))))))))))))))))))))))))))))))))))))))))))))))))))))))))))))))))))))))))))) := ⟨@sl_slc, @slS_str, @sl_str, @ixa_slc, @idxS_str, @idx_str, @lenM_map, @len_map, @len_slc, @lenS_str, @len_str, @cnvS_unbytes, @cnvS_bytes, @cnvS_str, @cnvS_rune, @cnvS_int, @cnvW_eq, @den_nil, @den_blk, @den_sc, @den_lp, @den_skip, @den_label, @den_ret, @den_seq, @den_cond, @den_block, @den_scope, @den_loop, @den_region, @den_regionD, @den_exit, @denX_some, @denOps_nil, @denOps_plain, @denOps_in, @denOps_grp0, @denOps_grp, @grpV_bool, @putK_some, @putK_none, @RetK_ret, @RetK_pan, @joinK_bool, @callW_func, @retW_eq, @ifV_bool, @panW_iface, @exW_zero, @exW_succ, @grpW_eq, @st_move, @st_assign, @st_pick, @st_alloc, @st_box, @st_build, @st_buildSlice, @st_load, @st_store, @st_nilCheck, @st_binOp, @st_unOp, @st_convert, @st_makeInterface, @st_makeFunc, @st_makeMap, @st_makeSlice, @st_slice, @st_fieldAddr, @st_field, @st_indexAddr, @st_index, @st_lookup, @st_mapUpdate, @st_insert, @st_range, @st_next, @st_typeAssert, @st_extract, @st_len, @st_append, @st_cap, @st_copy, @st_delete, @st_call, @st_panic, @bin_add, @bin_sub, @bin_mul, @bin_quo, @bin_rem, @bin_eql, @bin_neq, @bin_lss, @bin_leq, @bin_gtr, @bin_geq, @bin_and, @bin_or, @bin_shl, @bin_shr, @bin_sadd, @bin_seql, @bin_sneq, @bin_slss, @bin_sleq, @bin_sgtr, @bin_sgeq, @bin_beql, @bin_bneq, @bin_peql, @bin_pneq, @bin_sleql, @bin_slneq, @bin_meql, @bin_mneq, @bin_aeql, @bin_aneq⟩
theorem withE_eq (ρ : Env) (K : Env → Prop) : withE ρ K = K ρ := rfl
theorem vmV : type_of% (An @ifB_def (An @withE_eq (An @slS_str (An @idxS_str (An @lenM_map (An @lenS_str (An @cnvS_unbytes (An @cnvS_bytes (An @cnvS_str (An @cnvS_rune (An @cnvS_int (An @one_func (An @one_map (An @one_slice (An @one_pointer (An @one_string (An @one_int (An @one_bool (An @fldS_one (An @fldS_agg (An @fldV_eq (An @bldG_some (An @bldF_cons (An @bldS_true (An @bldV_eq (An @wrS_cells (An @wrCells_eq (An @rdCS_cells (An @rdCells_eq (An @cellS_cells (An @cellH_eq (An @rdS_one (An @rdS_agg (An @rdVar_eq (An @partS_one (An @partS_agg (An @partV_eq (An @andO_some (An @eqP_some (An @eqF_cons (An @eqF_nil (An @eqT_false (An @eqS_agg (An @eqS_map (An @eqS_mapN (An @eqS_slc (An @eqS_slcN (An @eqS_ptr (An @eqS_ptrN (An @eqS_str (An @eqS_int (An @eqS_bool (An @eqV_eq (An @bnd_some (An @need_true (An @ifB_true (An @ifB_false (An @grpOf_nil (An @grpOf_cons (An @aftOf_nil (An @aftOf_cons (An @slotOf_zero (An @slotOf_succ (An @pureG_nil (An @pureG_cons (An @pure_move (An @pure_pick (An @pure_extract (An @pure_binOp (An @pure_unOp (An @pure_len (An @pure_load (An @pure_index (An @pure_indexAddr (An @pure_fieldAddr (An @pure_field (An @pure_nilCheck (An @pure_call (An @pure_slice (An @pure_convert (An @pure_lookup (An @pure_build (An @pure_alloc (An @pure_box (An @pure_assign (An @pureB_eql (An @pureB_neq (An @pureB_lss (An @pureB_leq (An @pureB_gtr (An @pureB_geq (An @pureB_add (An @pureB_sub (An @pureB_mul (An @pureB_quo (An @pureB_rem (An @pureB_and (An @pureB_or (An @get_nil (An @get_cons (An @canon_nil (An @canon_cons (An @consO_some (An @consO_none (An @evO_tmp (An @evO_const (An @evO_global (An @evO_func (An @evL_nil (An @evL_cons (An @consL_some (An @evP_nil (An @evP_cons (An @consP_some (An @optO_none (An @optO_some (An @resL_nil (An @resL_cons (An @resO_tmp (An @resO_cell (An @oAddr_some (An @oRd_some (An @one_one (An @one_two (An @one_three (An @one_four (An @addrOf_some (An @addr_add (An @unV_neg (An @unV_not (An @boundN_none (An @boundN_some (An @aggO_some (An @splice_nil (An @splice_cons (An @okCells_nil (An @okCells_cons (An @bldF_nil (An @cells_agg (An @cells_int (An @cells_bool (An @cells_string (An @cells_pointer (An @cells_slice (An @cells_map (An @cells_func (An @joinB_true (An @joinB_false (An @exitK_blk (An @exitK_blkN (An @exitK_code (An @exitK_lp (An @exitK_sc (An @grpP_no (An @grpOk_nil (An @grpOk_cons (An @grpS_some (An @hid_nil (An @hid_some (An @mem_consN (An @not_memN (An @grpP_or @grpP_and)))))))))))))))))))))))))))))))))))))))))))))))))))))))))))))))))))))))))))))))))))))))))))))))))))))))))))))))))))))))))))))))))))))))))))))))))))))))))))))))))) := ⟨@ifB_def, @withE_eq, @slS_str, @idxS_str, @lenM_map, @lenS_str, @cnvS_unbytes, @cnvS_bytes, @cnvS_str, @cnvS_rune, @cnvS_int, @one_func, @one_map, @one_slice, @one_pointer, @one_string, @one_int, @one_bool, @fldS_one, @fldS_agg, @fldV_eq, @bldG_some, @bldF_cons, @bldS_true, @bldV_eq, @wrS_cells, @wrCells_eq, @rdCS_cells, @rdCells_eq, @cellS_cells, @cellH_eq, @rdS_one, @rdS_agg, @rdVar_eq, @partS_one, @partS_agg, @partV_eq, @andO_some, @eqP_some, @eqF_cons, @eqF_nil, @eqT_false, @eqS_agg, @eqS_map, @eqS_mapN, @eqS_slc, @eqS_slcN, @eqS_ptr, @eqS_ptrN, @eqS_str, @eqS_int, @eqS_bool, @eqV_eq, @bnd_some, @need_true, @ifB_true, @ifB_false, @grpOf_nil, @grpOf_cons, @aftOf_nil, @aftOf_cons, @slotOf_zero, @slotOf_succ, @pureG_nil, @pureG_cons, @pure_move, @pure_pick, @pure_extract, @pure_binOp, @pure_unOp, @pure_len, @pure_load, @pure_index, @pure_indexAddr, @pure_fieldAddr, @pure_field, @pure_nilCheck, @pure_call, @pure_slice, @pure_convert, @pure_lookup, @pure_build, @pure_alloc, @pure_box, @pure_assign, @pureB_eql, @pureB_neq, @pureB_lss, @pureB_leq, @pureB_gtr, @pureB_geq, @pureB_add, @pureB_sub, @pureB_mul, @pureB_quo, @pureB_rem, @pureB_and, @pureB_or, @get_nil, @get_cons, @canon_nil, @canon_cons, @consO_some, @consO_none, @evO_tmp, @evO_const, @evO_global, @evO_func, @evL_nil, @evL_cons, @consL_some, @evP_nil, @evP_cons, @consP_some, @optO_none, @optO_some, @resL_nil, @resL_cons, @resO_tmp, @resO_cell, @oAddr_some, @oRd_some, @one_one, @one_two, @one_three, @one_four, @addrOf_some, @addr_add, @unV_neg, @unV_not, @boundN_none, @boundN_some, @aggO_some, @splice_nil, @splice_cons, @okCells_nil, @okCells_cons, @bldF_nil, @cells_agg, @cells_int, @cells_bool, @cells_string, @cells_pointer, @cells_slice, @cells_map, @cells_func, @joinB_true, @joinB_false, @exitK_blk, @exitK_blkN, @exitK_code, @exitK_lp, @exitK_sc, @grpP_no, @grpOk_nil, @grpOk_cons, @grpS_some, @hid_nil, @hid_some, @mem_consN, @not_memN, @grpP_or, @grpP_and⟩
end Go.Vm
