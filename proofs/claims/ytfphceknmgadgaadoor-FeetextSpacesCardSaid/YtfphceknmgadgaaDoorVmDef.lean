/-
A symbolic evaluator for the model's code over heaps (arrays of blocks). This text holds its definition alone; that it is sound against the model stands in the next text.
Conditions: none. Generic: it speaks of no program.
-/
import Derived.WalkKit
import Derived.Deep.Quiet
import Derived.Deep.Draws
set_option linter.unusedSimpArgs false
set_option linter.unusedVariables false
namespace Go.Vm
theorem An {a b : Prop} (x : a) (y : b) : a ∧ b := ⟨x, y⟩
abbrev Heap := Array Obj
abbrev Env := List (Nat × Option Value)
def get : Env → Nat → Option Value
  | [], _ => none
  | (s, v) :: ρ, t => if s = t then v else get ρ t
def consO (s : Nat) (o : Option Value) (ρ : Env) : Env := match o with | some v => (s, some v) :: ρ | none => ρ
def canon : List Nat → Env → Env
  | [], _ => []
  | s :: l, ρ => consO s (get ρ s) (canon l ρ)
def evO (ρ : Env) : Operand → Option Value
  | .tmp t => get ρ t
  | .const v => some v
  | .global g => some (.pointer (some ⟨g, 0, none⟩))
  | .func f => some (.func (.func f) #[] #[])
def consL (o : Option Value) (l : Option (List Value)) : Option (List Value) := match o, l with | some v, some vs => some (v :: vs) | _, _ => none
def evL (ρ : Env) : List Operand → Option (List Value)
  | [] => some []
  | x :: l => consL (evO ρ x) (evL ρ l)
def consP (i : Nat) (o : Option Value) (l : Option (List (Nat × Value))) : Option (List (Nat × Value)) := match o, l with | some v, some vs => some ((i, v) :: vs) | _, _ => none
def evP (ρ : Env) : List (Nat × Operand) → Option (List (Nat × Value))
  | [] => some []
  | (i, x) :: l => consP i (evO ρ x) (evP ρ l)
def Tg {α : Type} (_ : α) : Type := Unit
def bnd {α : Type} (o : Option α) (K : α → Prop) (_t : Tg K := ()) : Prop := match o with | some v => K v | none => False
theorem bnd_some {α : Type} (v : α) (K : α → Prop) : bnd (some v) K = K v := rfl
def need (c : Prop) (K : Prop) : Prop := c ∧ K
@[congr] theorem need_congr {c c' K : Prop} (h : c = c') : need c K = need c' K := by rw [h]
theorem need_true (K : Prop) : need True K = K := by simp [need]
def ifB (b : Bool) (A B : Prop) : Prop := (b = true → A) ∧ (b = false → B)
@[congr] theorem ifB_congr {b b' : Bool} {A B : Prop} (h : b = b') : ifB b A B = ifB b' A B := by rw [h]
theorem ifB_true (A B : Prop) : ifB true A B = A := by simp [ifB]
theorem ifB_false (A B : Prop) : ifB false A B = B := by simp [ifB]
def ifV (v : Value) (A B : Prop) : Prop := match v with | .bool b => ifB b A B | _ => False
theorem ifV_bool (b : Bool) (A B : Prop) : ifV (.bool b) A B = ifB b A B := rfl
@[congr] theorem ifV_congr {v v' : Value} {A B : Prop} (h : v = v') : ifV v A B = ifV v' A B := by rw [h]
def withE (ρ : Env) (K : Env → Prop) (_t : Tg K := ()) : Prop := K ρ
def shp (P : Program) (t : TypeId) : Option (Bool × Nat) :=
  match P.info? t, P.underlying t with
  | some i, some (.struct _) => some (true, i.size)
  | some i, some (.array _ _) => some (true, i.size)
  | some i, some _ => some (false, i.size)
  | _, _ => none
def fld (P : Program) (t : TypeId) (i : Nat) : Option (Nat × Bool × Nat) :=
  match P.underlying t with
  | some (.struct fs) => match fs[i]? with
    | some f => (shp P f.type).map fun s => (f.offset, s)
    | none => none
  | _ => none
def zro (P : Program) (t : TypeId) : Option Value := (P.info? t).bind (·.zero)
def slc (P : Program) (t : TypeId) : Option (TypeId × Nat × Nat) :=
  match P.underlying t with
  | some (.slice e) => (P.info? e).map fun i => (e, i.size, i.bytes)
  | _ => none
def callable (P : Program) (f : FuncId) : Bool := match P.funcs[f]? with | some fn => fn.name != "runtime.NumGoroutine" && fn.body.isSome | none => false
def cellH (h : Heap) (a : Addr) : Option Value :=
  match h[a.block]? with
  | some (.cells c _ _) => if a.spot.isSome then none else c[a.off]?
  | _ => none
def rdCells (h : Heap) (a : Addr) (n : Nat) : Option (Array Value) :=
  match h[a.block]? with
  | some (.cells c _ _) => if a.spot = none ∧ a.off + n ≤ c.size then some (c.extract a.off (a.off + n)) else none
  | _ => none
def aggO (o : Option (Array Value)) : Option Value := match o with | some c => some (.agg c) | none => none
def rdVar (P : Program) (h : Heap) (t : TypeId) (a : Addr) : Option Value :=
  match shp P t with
  | some (true, n) => aggO (rdCells h a n)
  | some (false, _) => cellH h a
  | none => none
def splice (c : Array Value) (o : Nat) : List Value → Array Value
  | [] => c
  | v :: l => splice (c.setIfInBounds o v) (o + 1) l
def okCells : List Value → Bool
  | [] => true
  | v :: l => v.oneCell' && okCells l
def wrCells (h : Heap) (a : Addr) (vs : List Value) : Option Heap :=
  match h[a.block]? with
  | some (.cells c e fr) => if a.spot = none ∧ a.off + vs.length ≤ c.size ∧ (fr.2 ≤ a.off ∨ a.off + vs.length ≤ fr.1) ∧ okCells vs = true then
      some (h.setIfInBounds a.block (.cells (splice c a.off vs) e fr)) else none
  | _ => none
def partV (P : Program) (t : TypeId) (cs : Array Value) (off : Nat) : Option Value :=
  match shp P t with
  | some (true, n) => some (.agg (cs.extract off (off + n)))
  | some (false, _) => cs[off]?
  | none => none
def andO (a b : Option Bool) : Option Bool := match a, b with | some x, some y => some (x && y) | _, _ => none
def eqP (eq : TypeId → Value → Value → Option Bool) (t : TypeId) (a b : Option Value) : Option Bool := match a, b with | some x, some y => eq t x y | _, _ => none
def eqF (P : Program) (eq : TypeId → Value → Value → Option Bool) (xs ys : Array Value) : List Field → Option Bool
  | [] => some true
  | f :: l => if f.name = "_" then eqF P eq xs ys l else andO (eqP eq f.type (partV P f.type xs f.offset) (partV P f.type ys f.offset)) (eqF P eq xs ys l)
def eqA (P : Program) (eq : TypeId → Value → Value → Option Bool) (te : TypeId) (n : Nat) (xs ys : Array Value) : Nat → Nat → Option Bool
  | 0, _ => some true
  | k + 1, i => andO (eqP eq te (partV P te xs (i * n)) (partV P te ys (i * n))) (eqA P eq te n xs ys k (i + 1))
def eqAO (P : Program) (eq : TypeId → Value → Value → Option Bool) (te : TypeId) (len : Nat) (xs ys : Array Value) : Option TypeInfo → Option Bool
  | some j => eqA P eq te j.size xs ys len 0
  | none => none
def eqV (P : Program) : Nat → TypeId → Value → Value → Option Bool
  | 0, _, _, _ => none
  | d + 1, t, x, y =>
    match P.underlying t, x, y with
    | some .bool, .bool a, .bool b => some (a == b)
    | some (.int _), .int k a, .int k' b => if k = k' then some (a == b) else none
    | some .string, .string a, .string b => some (a.toList == b.toList)
    | some (.pointer _), .pointer none, .pointer b => some b.isNone
    | some (.pointer _), .pointer (some _), .pointer none => some false
    | some (.pointer te), .pointer (some a), .pointer (some b) => if a = b ∧ (P.info? te).isSome = true then some true else none
    | some (.slice _), .slice none _ _, .slice b _ _ => some b.isNone
    | some (.slice _), .slice (some _) _ _, .slice none _ _ => some false
    | some (.map _ _), .map none, .map b => some b.isNone
    | some (.map _ _), .map (some _), .map none => some false
    | some (.struct fs), .agg xs, .agg ys => if P.stoodInHeld t then none else eqF P (eqV P d) xs ys fs.toList
    | some (.array len te), .agg xs, .agg ys => eqAO P (eqV P d) te len xs ys (P.info? te)
    | _, _, _ => none
def eqOk (P : Program) (t : TypeId) (x y : Value) : Bool := match x, y with | .agg _, .agg _ => !P.eqGuardType P.depth t | .nilIface, .nilIface => false | _, _ => true
def binW (P : Program) (op : BinOp) (t : TypeId) (x y : Value) (K : Value → Prop) (_t : Tg K := ()) : Prop :=
  match x, y with
  | .int k a, .int k' b =>
    match op with
    | .add => need (k = k') (K (.int k (k.wrap (a + b))))
    | .sub => need (k = k') (K (.int k (k.wrap (a - b))))
    | .mul => need (k = k') (K (.int k (k.wrap (a * b))))
    | .quo => need (k = k' ∧ b ≠ 0) (K (.int k (k.wrap (a.tdiv b))))
    | .rem => need (k = k' ∧ b ≠ 0) (K (.int k (a.tmod b)))
    | .eql => need (k = k') (K (.bool (a == b)))
    | .neq => need (k = k') (K (.bool (a != b)))
    | .lss => need (k = k') (K (.bool (decide (a < b))))
    | .leq => need (k = k') (K (.bool (decide (a ≤ b))))
    | .gtr => need (k = k') (K (.bool (decide (b < a))))
    | .geq => need (k = k') (K (.bool (decide (b ≤ a))))
    | .and => need (k = k') (K (.int k (k.wrap (BitVec.ofInt k.bits a &&& BitVec.ofInt k.bits b).toNat)))
    | .or => need (k = k') (K (.int k (k.wrap (BitVec.ofInt k.bits a ||| BitVec.ofInt k.bits b).toNat)))
    | .xor => need (k = k') (K (.int k (k.wrap (BitVec.ofInt k.bits a ^^^ BitVec.ofInt k.bits b).toNat)))
    | .andNot => need (k = k') (K (.int k (k.wrap (BitVec.ofInt k.bits a &&& ~~~ (BitVec.ofInt k.bits b)).toNat)))
    | .shl => need (0 ≤ b) (K (.int k (k.wrap (a * 2 ^ (min b.toNat k.bits)))))
    | .shr => need (0 ≤ b) (K (.int k (a.fdiv (2 ^ (min b.toNat k.bits)))))
  | .string a, .string b =>
    match op with
    | .add => need (a.size + b.size ≤ 9223372036854775807) (K (.string (a ++ b)))
    | .eql => K (.bool (a.toList == b.toList))
    | .neq => K (.bool (!(a.toList == b.toList)))
    | .lss => K (.bool (Op.bytesLess a.toList b.toList))
    | .leq => K (.bool (Op.bytesLess a.toList b.toList || a.toList == b.toList))
    | .gtr => K (.bool (!(Op.bytesLess a.toList b.toList || a.toList == b.toList)))
    | .geq => K (.bool (!(Op.bytesLess a.toList b.toList)))
    | _ => False
  | x, y =>
    match op with
    | .eql => need (eqOk P t x y = true) (bnd (eqV P 10000 t x y) fun b => K (.bool b))
    | .neq => need (eqOk P t x y = true) (bnd (eqV P 10000 t x y) fun b => K (.bool (!b)))
    | _ => False
def unV (op : UnOp) (x : Value) : Option Value :=
  match op, x with
  | .neg, .int k n => some (.int k (k.wrap (0 - n)))
  | .not, .bool b => some (.bool (!b))
  | _, _ => none
def addrOf : Value → Option Addr
  | .pointer (some a) => some a
  | _ => none
def fldV (P : Program) (t : TypeId) (i : Nat) (x : Value) : Option Value :=
  match x, fld P t i with
  | .agg cs, some (off, true, n) => some (.agg (cs.extract off (off + n)))
  | .agg cs, some (off, false, _) => cs[off]?
  | _, _ => none
def bldOk (P : Program) (t : TypeId) : Bool := match P.underlying t with | some (.struct fs) => fs.toList.all fun f => (P.info? f.type).isSome | _ => false
def bldF (P : Program) (t : TypeId) : Array Value → List (Nat × Value) → Option (Array Value)
  | c, [] => some c
  | c, (i, v) :: l => match fld P t i with
    | some (off, _, n) => if v.cells.size = n ∧ off + n ≤ c.size then bldF P t (splice c off v.cells.toList) l else none
    | none => none
def bldS (P : Program) (t : TypeId) (ok : Bool) (z : Option Value) (vs : List (Nat × Value)) : Option Value := match ok, z with | true, some z => aggO (bldF P t z.cells vs) | _, _ => aggO (P.built t vs)
def bldV (P : Program) (t : TypeId) (vs : List (Nat × Value)) : Option Value := bldS P t (bldOk P t) (zro P t) vs
def sliceCells (P : Program) (t : TypeId) (n : Nat) (vs : List (Nat × Value)) : Option (TypeId × Array Value) :=
  match P.underlying t with
  | some (.slice e) => match P.info? e with
    | some ie => match ie.zero with
      | some z => if n * ie.size > 2 ^ 24 then none else
        match Instr.fill (fun i => some (i * ie.size, ie.size)) ((Array.range (n * ie.size)).map ((if n * ie.size = 0 then #[] else z.cells)[· % (if n * ie.size = 0 then #[] else z.cells).size]!)) vs with
        | some c => some (e, c)
        | none => none
      | none => none
    | none => none
  | _ => none
def Rest (w w' : World) : Prop := w'.os = w.os ∧ w'.tape = w.tape ∧ w'.output = w.output
def RunW (P : Program) (s : Sem Value) (h : Heap) (K : Value → Heap → Prop) (_t : Tg K := ()) : Prop :=
  ∀ w : World, w.heap = h → ∃ v w', s.run P w = .ok v w' ∧ Rest w w' ∧ K v w'.heap
def CallsH (P : Program) (f : FuncId) (args : Array Value) (h : Heap) (R : Ending → Heap → Prop) : Prop :=
  ∀ w : World, w.heap = h → Calls P f args w fun e w' => R e w'.heap ∧ Rest w w'
def idxW (P : Program) (t : TypeId) (x i : Value) (K : Value → Prop) : Prop :=
  match x, i with
  | .string s, .int _ n => need (P.underlying t = some .string ∧ 0 ≤ n) (bnd s.data[n.toNat]? fun b => K (.int .u8 b.toNat))
  | .agg cs, .int _ n => match P.underlying t with
    | some (.array len e) => need (0 ≤ n ∧ n < len) (bnd (shp P e) fun s => bnd (partV P e cs (n.toNat * s.2)) K)
    | _ => False
  | _, _ => False
def ixaW (P : Program) (t : TypeId) (x i : Value) (K : Value → Prop) : Prop :=
  match x, i with
  | .slice (some a) len _, .int _ n => bnd (slc P t) fun e => need (0 ≤ n ∧ n < len) (K (.pointer (some (a.add (n.toNat * e.2.1)))))
  | .pointer (some a), .int _ n => match P.underlying t with
    | some (.array len e) => bnd (shp P e) fun s => need (0 ≤ n ∧ n < len) (K (.pointer (some (a.add (n.toNat * s.2)))))
    | _ => False
  | _, _ => False
def boundN : Option Value → Nat → Option Int
  | none, d => some d
  | some (.int _ n), _ => some n
  | _, _ => none
def slW (P : Program) (t : TypeId) (x : Value) (lo hi : Option Value) (K : Value → Prop) : Prop :=
  match x with
  | .string s => bnd (boundN lo 0) fun l => bnd (boundN hi s.size) fun r => need (P.underlying t = some .string ∧ 0 ≤ l ∧ l ≤ r ∧ r ≤ s.size) (K (.string (s.extract l.toNat r.toNat)))
  | .slice a len cap => bnd (slc P t) fun e => bnd (boundN lo 0) fun l => bnd (boundN hi len) fun r =>
      need (0 ≤ l ∧ l ≤ r ∧ r ≤ cap) (K (.slice (if cap = l.toNat then a else a.map (·.add (l.toNat * e.2.1))) (r.toNat - l.toNat) (cap - l.toNat)))
  | _ => False
def slW3 (P : Program) (t : TypeId) (x : Value) (lo hi : Option Value) (mx : Value) (K : Value → Prop) : Prop :=
  match x with
  | .slice a len cap => bnd (slc P t) fun e => bnd (boundN lo 0) fun l => bnd (boundN hi len) fun r => bnd (boundN (some mx) cap) fun m =>
      need (hi ≠ none ∧ 0 ≤ l ∧ l ≤ r ∧ r ≤ m ∧ m ≤ cap) (K (.slice (if m = l then a else a.map (·.add (l.toNat * e.2.1))) (r.toNat - l.toNat) (m.toNat - l.toNat)))
  | _ => False
def optO (ρ : Env) : Option Operand → Option (Option Value)
  | none => some none
  | some x => (evO ρ x).map some
def lenW (P : Program) (t : TypeId) (x : Value) (h : Heap) (K : Value → Prop) : Prop :=
  match x with
  | .string s => need (P.underlying t = some .string) (K (.int .i64 s.size))
  | .slice _ n _ => bnd (slc P t) fun _ => K (.int .i64 n)
  | .map none => match P.underlying t with | some (.map _ _) => K (.int .i64 0) | _ => False
  | .map (some r) => match P.underlying t, h[r]? with | some (.map _ _), some (.map es _) => K (.int .i64 es.size) | _, _ => False
  | _ => False
def cnvW (P : Program) (s d : TypeId) (x : Value) (h : Heap) (K : Value → Heap → Prop) : Prop :=
  match P.underlying s, P.underlying d with
  | some _, some (.int k) => match x with
    | .int _ n => K (.int k (k.wrap n)) h
    | _ => False
  | some (.int _), some .string => match x with
    | .int _ n => K (.string (Utf8.encode n)) h
    | _ => False
  | some .string, some .string => match x with
    | .string b => K (.string b) h
    | _ => False
  | _, _ => RunW P (convert s d x) h K
def opW (P : Program) (o : Op) (ty : TypeId) (ρ : Env) (h : Heap) (K : Value → Heap → Prop) : Prop :=
  match o with
  | .move x => bnd (evO ρ x) fun v => K v h
  | .assign x => bnd (evO ρ x) fun v => K v h
  | .pick c a b => bnd (evO ρ c) fun v => ifV v (bnd (evO ρ a) fun u => K u h) (bnd (evO ρ b) fun u => K u h)
  | .alloc e => bnd (zro P e) fun z => K (.pointer (some ⟨h.size, 0, none⟩)) (h.push (.cells z.cells e))
  | .box e x => bnd (evO ρ x) fun v => K (.pointer (some ⟨h.size, 0, none⟩)) (h.push (.cells v.cells e))
  | .build t ps => bnd (evP ρ ps.toList) fun vs => bnd (bldV P t vs) fun v => K v h
  | .buildSlice t n ps => bnd (evP ρ ps.toList) fun vs => bnd (sliceCells P t n vs) fun r => K (.slice (some ⟨h.size, 0, none⟩) n n) (h.push (.cells r.2 r.1))
  | .load t x => bnd (evO ρ x) fun p => bnd (addrOf p) fun a => bnd (rdVar P h t a) fun v => K v h
  | .store t x y => bnd (evO ρ x) fun p => bnd (addrOf p) fun a => bnd (evO ρ y) fun v => bnd (shp P t) fun s => need (v.cells.size = s.2) (bnd (wrCells h a v.cells.toList) fun h' => K undef h')
  | .nilCheck x => bnd (evO ρ x) fun p => bnd (addrOf p) fun _ => K p h
  | .binOp op t x y _ => bnd (evO ρ x) fun a => bnd (evO ρ y) fun b => binW P op t a b fun v => K v h
  | .unOp op _ x => bnd (evO ρ x) fun v => bnd (unV op v) fun u => K u h
  | .convert s d x => bnd (evO ρ x) fun v => cnvW P s d v h K
  | .makeInterface t x => bnd (evO ρ x) fun v => need (P.concrete t = true) (K (.iface t v) h)
  | .makeFunc fn fs cs => bnd (evL ρ fs.toList) fun us => bnd (evL ρ cs.toList) fun vs => K (.func fn us.toArray vs.toArray) h
  | .makeMap _ none => K (.map (some h.size)) (h.push (.map #[] 0))
  | .makeSlice t l c => bnd (evO ρ l) fun lv => bnd (evO ρ c) fun cv => RunW P (Instr.makeSlice t lv cv) h K
  | .slice t x lo hi none => bnd (evO ρ x) fun v => bnd (optO ρ lo) fun l => bnd (optO ρ hi) fun r => slW P t v l r fun u => K u h
  | .slice t x lo hi (some m) => bnd (evO ρ x) fun v => bnd (optO ρ lo) fun l => bnd (optO ρ hi) fun r => bnd (evO ρ m) fun mv => slW3 P t v l r mv fun u => K u h
  | .fieldAddr t x i => bnd (evO ρ x) fun p => bnd (addrOf p) fun a => bnd (fld P t i) fun f => need (f.2.2 ≠ 0) (K (.pointer (some (a.add f.1))) h)
  | .field t x i => bnd (evO ρ x) fun v => bnd (fldV P t i v) fun u => K u h
  | .indexAddr t x i => bnd (evO ρ x) fun v => bnd (evO ρ i) fun n => ixaW P t v n fun u => K u h
  | .index t x i => bnd (evO ρ x) fun v => bnd (evO ρ i) fun n => idxW P t v n fun u => K u h
  | .lookup t x i ok => bnd (evO ρ x) fun m => bnd (evO ρ i) fun k => RunW P (Instr.lookup t m k ok) h K
  | .mapUpdate t x i y => bnd (evO ρ x) fun m => bnd (evO ρ i) fun k => bnd (evO ρ y) fun v => RunW P (do Instr.mapUpdate t m k v; Pure.pure undef) h K
  | .insert t x i y => bnd (evO ρ x) fun m => bnd (evO ρ i) fun k => bnd (evO ρ y) fun v => RunW P (do Instr.mapUpdate t m k v; Pure.pure undef) h K
  | .range t x => bnd (evO ρ x) fun v => RunW P (Instr.range t v) h K
  | .next x s => bnd (evO ρ x) fun v => RunW P (Instr.next v s ty) h K
  | .typeAssert x t a ok => bnd (evO ρ x) fun v => RunW P (Instr.typeAssert v t a ok) h K
  | .extract x i => bnd (evO ρ x) fun v => match v with | .tuple vs => bnd vs[i]? fun u => K u h | _ => False
  | .call { callee := .builtin b, args, argTypes } => bnd (evL ρ args.toList) fun vs =>
    match b, vs, argTypes.toList with
    | .len, [v], [t] => lenW P t v h fun u => K u h
    | .append, _, _ => RunW P (Builtin.append_ argTypes ty vs.toArray) h K
    | .cap, _, _ => RunW P (Builtin.cap_ argTypes ty vs.toArray) h K
    | .copy, _, _ => RunW P (Builtin.copy_ argTypes ty vs.toArray) h K
    | .delete, _, _ => RunW P (Builtin.delete_ argTypes ty vs.toArray) h K
    | .clear, _, _ => RunW P (Builtin.clear_ argTypes ty vs.toArray) h K
    | .unsafeSliceData, _, _ => RunW P (Builtin.unsafeSliceData_ argTypes ty vs.toArray) h K
    | .unsafeString, _, _ => RunW P (Builtin.unsafeString_ argTypes ty vs.toArray) h K
    | .max, [.int k x, .int _ y], _ => K (.int k (if x < y then y else x)) h
    | .min, [.int k x, .int _ y], _ => K (.int k (if y < x then y else x)) h
    | _, _, _ => False
  | _ => False
def putK (n : Nat) (dst : Option Nat) (v : Value) (ρ : Env) (K : Env → Prop) : Prop := match dst with | some d => need (d < n) (K ((d, some v) :: ρ)) | none => K ρ
def RetK {n : Nat} {dst : Option Nat} (ρ : Env) {K : Env → Heap → Prop} {X : List PanicEntry → Heap → Prop} (_t : Tg (n, dst, K, X)) (e : Ending) (h : Heap) : Prop :=
  match e with
  | .returned v => putK n dst v ρ fun ρ' => K ρ' h
  | .panicked ch => X ch h
  | .outgrown => False
def ExtW (P : Program) (g : FuncId) (args : Array Value) (h : Heap) (Q : Ending → Heap → Prop) : Prop :=
  ∀ w : World, w.heap = h → ∃ v w', (callFunc g args).run P w = .ok (.value v) w' ∧ Rest w w' ∧ Q (.returned v) w'.heap
def Exact (P : Program) (f : FuncId) (args : Array Value) (h : Heap) (p : Value × Heap) : Prop := P.inits.idxOf? f = none ∧ CallsH P f args h fun e h' => e = .returned p.1 ∧ h' = p.2
open Classical in
noncomputable def exactOf (P : Program) (f : FuncId) (args : Array Value) (h : Heap) : Option (Value × Heap) := if H : ∃ p, Exact P f args h p then some H.choose else none
def CallsX (P : Program) (f : FuncId) (args : Array Value) (h : Heap) (Q : Ending → Heap → Prop) : Prop := match exactOf P f args h with | some p => Q (.returned p.1) p.2 | none => CallsH P f args h Q
def callW (P : Program) (f : Value) (vs : List Value) (h : Heap) (Q : Ending → Heap → Prop) : Prop :=
  match f with
  | .func (.func g) fs cs => if callable P g = true then CallsX P g (fs ++ vs.toArray ++ cs) h Q else ExtW P g (fs ++ vs.toArray ++ cs) h Q
  | _ => False
def stepW (P : Program) (n : Nat) (o : Oper) (ρ : Env) (h : Heap) (K : Env → Heap → Prop) (X : List PanicEntry → Heap → Prop) : Prop :=
  match o.op with
  | .call { callee := .value f, args, .. } => bnd (evO ρ f) fun fv => bnd (evL ρ args.toList) fun vs => callW P fv vs h (@RetK n o.dst ρ K X ())
  | .panic x => bnd (evO ρ x) fun v => match v with | .iface t u => X [{ v := .iface t u, recovered := false }] h | _ => False
  | op => opW P op o.type ρ h fun v h' => putK n o.dst v ρ fun ρ' => K ρ' h'
def grpOf (cur : Option (Nat × Bool)) : List Oper → List Oper
  | [] => []
  | o :: l => if o.guard = cur then [] else o :: grpOf cur l
def aftOf (cur : Option (Nat × Bool)) : List Oper → List Oper
  | [] => []
  | o :: l => if o.guard = cur then o :: l else aftOf cur l
def slotOf (all : List Oper) (j : Nat) : Option Nat := match all[j]? with | some o => o.dst | none => none
def pureOp : Op → Bool
  | .move _ | .pick .. | .extract .. => true
  | .binOp op .. => match op with | .quo | .rem | .shl | .shr => false | _ => true
  | .unOp .. => true
  | .call { callee := .builtin .len, .. } => true
  | _ => false
def pureG : List Oper → Bool
  | [] => true
  | o :: l => pureOp o.op && pureG l
def closes (want : Bool) (s : Nat) (op : Op) : Option Operand :=
  match want, op with
  | false, .pick (.tmp t) (.const (.bool true)) y => if t = s then some y else none
  | true, .pick (.tmp t) y (.const (.bool false)) => if t = s then some y else none
  | _, _ => none
def grpOk (all : List Oper) (s j : Nat) (want : Bool) : List Nat → List Oper → Bool
  | _, [] => true
  | sk, o :: l => match o.dst, o.guard with
    | some d, some (j', w') => if d = s then false else if j' = j ∧ w' = want then grpOk all s j want (d :: sk) l
      else match slotOf all j' with
        | some s' => if s' ∈ sk then grpOk all s j want (d :: sk) l else false
        | none => false
    | _, _ => false
def hid : List Oper → Env → Env
  | [], ρ => ρ
  | o :: l, ρ => match o.dst with
    | some d => hid l ((d, none) :: ρ)
    | none => hid l ρ
def joinB (want b c : Bool) : Bool := if want then b && c else b || c
def joinK (n : Nat) (dst : Option Nat) (want b : Bool) (y : Value) (ρ : Env) (K : Env → Prop) : Prop := match y with | .bool c => putK n dst (.bool (joinB want b c)) ρ K | _ => False
def denOps (P : Program) (n : Nat) (all : List Oper) : Nat → Option (Nat × Bool) → List Oper → Env → Heap → (Env → Heap → Prop) → (List PanicEntry → Heap → Prop) → Prop
  | 0, _, _, _, _, _, _ => False
  | _ + 1, _, [], ρ, h, K, _ => K ρ h
  | m + 1, cur, o :: rest, ρ, h, K, X =>
    if o.guard = cur then stepW P n o ρ h (fun ρ' h' => denOps P n all m cur rest ρ' h' K X) X
    else match o.guard with
      | none => False
      | some (j, want) => bnd (slotOf all j) fun s => bnd (get ρ s) fun v => match v with
        | .bool b => need (grpOk all s j want [] (grpOf cur (o :: rest)) = true)
          (match pureG (grpOf cur (o :: rest)), aftOf cur (o :: rest) with
          | true, p :: after => match closes want s p.op with
            | some y => denOps P n all m (some (j, want)) (grpOf cur (o :: rest)) ρ h (fun ρ' h' => bnd (evO ρ' y) fun c => joinK n p.dst want b c (hid (grpOf cur (o :: rest)) ρ) fun ρ'' => denOps P n all m cur after ρ'' h' K X) X
            | none => False
          | _, after => ifB (b == want) (denOps P n all m (some (j, want)) (grpOf cur (o :: rest)) ((s, some (.bool want)) :: ρ) h (fun ρ' h' => denOps P n all m cur after ρ' h' K X) X) (denOps P n all m cur after (hid (grpOf cur (o :: rest)) ((s, some (.bool (!want))) :: ρ)) h K X))
        | _ => False
inductive It where
  | code (c : Code)
  | blk (id : Nat)
  | lp (c : Code)
  | sc (c : Code)
structure Cx where
  P : Program
  f : FuncId
  fn : Func
  n : Nat
  live : List Nat
  R : Ending → Heap → Prop
def It.item : It → Item
  | .code c => .code c
  | .blk id => .inBlock id
  | .lp c => .inLoop c
  | .sc c => .inScope c
def csz : Code → Nat
  | .seq a b => csz a + csz b + 1
  | .cond _ a b => csz a + csz b + 1
  | .block _ c => csz c + 2
  | .scope c => csz c + 2
  | _ => 1
def isz : It → Nat
  | .code c => csz c
  | _ => 1
def ksz : List It → Nat
  | [] => 0
  | x :: k => isz x + ksz k
def exitK (id : Nat) : List It → Option (List It)
  | [] => none
  | .blk id' :: k => if id' = id then some k else exitK id k
  | _ :: k => exitK id k
theorem exitK_sz (id : Nat) : ∀ k k', exitK id k = some k' → ksz k' ≤ ksz k
  | [], _, h => by simp [exitK] at h
  | .blk i :: k, k', h => by
    unfold exitK at h
    split at h
    · cases h; simp [ksz]
    · have := exitK_sz id k k' h; simp only [ksz]; omega
  | .code c :: k, k', h => by have := exitK_sz id k k' (by simpa [exitK] using h); simp only [ksz]; omega
  | .lp c :: k, k', h => by have := exitK_sz id k k' (by simpa [exitK] using h); simp only [ksz]; omega
  | .sc c :: k, k', h => by have := exitK_sz id k k' (by simpa [exitK] using h); simp only [ksz]; omega
class DefD where
  ds : List Deferred
  kd : CallKind
def leavingD [dd : DefD] (P : Program) (fr : Frame) (w : World) : Ending → Prop
  | .returned v => fr.mode = .returning ∧ fr.defers = DefD.ds ∧ fr.kind = DefD.kd ∧ ∃ fn, P.funcs[fr.fn]? = some fn ∧ (results fn fr.tmps).run P w = .ok v w
  | .panicked chain => fr.mode = .panicking chain ∧ fr.defers = DefD.ds ∧ ∃ fn, P.funcs[fr.fn]? = some fn
  | .outgrown => True
def TodoW [dd : DefD] (P : Program) (b : Frame) (todo : List Item) (a : Act) (w : World) (R : Ending → World → Prop) : Prop :=
  ∀ cs, ∃ e w' fr, R e w' ∧ Comes P (lone (b.at a todo) cs w) (lone fr cs w') e ∧ fr.fn = b.fn ∧ leavingD P fr w' e
def OkE [dd : DefD] (n : Nat) (ρ : Env) (a : Act) : Prop := a.defers = DefD.ds ∧ a.tmps.size = n ∧ ∀ t v, get ρ t = some v → a.tmps[t]? = some v
def Meant [dd : DefD] {c : Cx} {k : List It} (ρ : Env) (h : Heap) (_t : Tg (c, k)) : Prop :=
  c.P.funcs[c.f]? = some c.fn → ∀ (b : Frame) (a : Act) (w : World), b.fn = c.f → b.kind = DefD.kd → OkE c.n ρ a → w.heap = h →
    TodoW c.P b (k.map It.item) a w fun e w' => c.R e w'.heap ∧ Rest w w'
def LoopAt [dd : DefD] {c : Cx} {body : Code} {k : List It} (ρ : Env) (h : Heap) (_t : Tg (c, body, k)) : Prop :=
  c.P.funcs[c.f]? = some c.fn → ∀ (b : Frame) (a : Act) (w : World), b.fn = c.f → b.kind = DefD.kd → OkE c.n ρ a → w.heap = h →
    TodoW c.P b (.code body :: .inLoop body :: k.map It.item) a w fun e w' => c.R e w'.heap ∧ Rest w w'
def oAddr (o : Option Value) : Option Addr := match o with | some p => addrOf p | none => none
def oRd (P : Program) (h : Heap) (ty : TypeId) (o : Option Addr) : Option Value := match o with | some a => rdVar P h ty a | none => none
def resO (P : Program) (ρ : Env) (h : Heap) : ResultVar → Option Value
  | .tmp t => get ρ t
  | .cell s ty => oRd P h ty (oAddr (get ρ s))
def resL (P : Program) (ρ : Env) (h : Heap) : List ResultVar → Option (List Value)
  | [] => some []
  | r :: l => consL (resO P ρ h r) (resL P ρ h l)
def one : List Value → Value
  | [v] => v
  | vs => .tuple vs.toArray
def retW (c : Cx) (ρ : Env) (h : Heap) : Prop := bnd (resL c.P ρ h c.fn.results.toList) fun vs => c.R (.returned (one vs)) h
def den [dd : DefD] (c : Cx) (k : List It) (ρ : Env) (h : Heap) : Prop :=
  match _hk : k with
  | [] => retW c ρ h
  | .blk _ :: k => den c k ρ h
  | .sc _ :: k => den c k ρ h
  | .lp body :: k => @LoopAt dd c body k (canon c.live ρ) h ()
  | .code .skip :: k => den c k ρ h
  | .code (.label _) :: k => den c k ρ h
  | .code .ret :: _ => retW c ρ h
  | .code (.seq x y) :: k => den c (.code x :: .code y :: k) ρ h
  | .code (.cond x t e) :: k => bnd (evO ρ x) fun v => ifV v (den c (.code t :: k) ρ h) (den c (.code e :: k) ρ h)
  | .code (.block id b) :: k => den c (.code b :: .blk id :: k) ρ h
  | .code (.scope b) :: k => den c (.code b :: .sc b :: k) ρ h
  | .code (.loop body) :: k => @LoopAt dd c body k (canon c.live ρ) h ()
  | .code (.exit id) :: k => match _he : exitK id k with
    | some k' => den c k' ρ h
    | none => False
  | .code (.region _ ops false) :: k => denOps c.P c.n ops.toList 400 none ops.toList (canon c.live ρ) h (fun ρ' h' => den c k ρ' h') fun ch h' => c.R (.panicked ch) h'
  | .code (.region id ops true) :: k => @Meant dd c (.code (.region id ops true) :: k) (canon c.live ρ) h ()
  | .code _ :: _ => False
termination_by ksz k
decreasing_by
  all_goals simp only [ksz, isz, csz] <;> (try omega)
  have := exitK_sz _ _ _ ‹_›
  omega
def denX [dd : DefD] (c : Cx) (k : Option (List It)) (ρ : Env) (h : Heap) : Prop := match k with | some k => den c k ρ h | none => False
end Go.Vm
