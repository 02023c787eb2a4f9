/-
A second evaluator, over the blocks that are known ('AH'): fresh blocks bear names drawn from a supply, calls of functions that change nothing leave what is known as it is. Its meaning is the first evaluator's, run from every heap that fits.
Conditions: none. Generic: it speaks of no program.
-/
import Derived.Test.YtfphceknmgadgaaDoorVmMap
set_option linter.unusedSimpArgs false
set_option linter.unusedVariables false
namespace Go.Vm
abbrev Nu := Nat → Nat
abbrev AH := List (Nat × Obj)
def look : AH → Nat → Option Obj
  | [], _ => none
  | (b, o) :: A, x => if b = x then some o else look A x
def putB : AH → Nat → Obj → AH
  | [], _, _ => []
  | (b, o) :: A, x, u => if b = x then (b, u) :: A else (b, o) :: putB A x u
def Sat (A : AH) (h : Heap) : Prop := ∀ b o, look A b = some o → h[b]? = some o
def Keep (A : AH) (h : Heap) (A' : AH) (h' : Heap) : Prop := h.size ≤ h'.size ∧ ∀ b, b < h.size → look A b = none → h'[b]? = h[b]? ∧ look A' b = none
def InjN (ν : Nu) : Prop := ∀ i j, ν i = ν j → i = j
def Fresh (ν : Nu) (A : AH) : Prop := InjN ν ∧ ∀ i, look A (ν i) = none
def ResA (A : AH) (h : Heap) (K : Value → AH → Prop) (e : Ending) (h' : Heap) : Prop := ∃ v A', e = .returned v ∧ Sat A' h' ∧ Keep A h A' h' ∧ K v A'
def RunC (P : Program) (g : FuncId) (args : Array Value) (h : Heap) (R : Ending → Heap → Prop) : Prop := if callable P g = true then CallsH P g args h R else ExtW P g args h R
def CallA (P : Program) (g : FuncId) (args : Array Value) (A : AH) (K : Value → AH → Prop) : Prop := ∀ h, Sat A h → RunC P g args h (ResA A h K)
def ResE (A : AH) (h : Heap) (X : List PanicEntry → AH → Prop) (K : Value → AH → Prop) (e : Ending) (h' : Heap) : Prop := ResA A h K e h' ∨ ∃ ch A', e = .panicked ch ∧ Sat A' h' ∧ Keep A h A' h' ∧ X ch A'
abbrev Xp := Option (List PanicEntry → AH → Prop)
def resX (X : Xp) (A : AH) (h : Heap) (K : Value → AH → Prop) : Ending → Heap → Prop := match X with | none => ResA A h K | some X => ResE A h X K
def CallE (P : Program) (g : FuncId) (args : Array Value) (A : AH) (X : List PanicEntry → AH → Prop) (K : Value → AH → Prop) : Prop := ∀ h, Sat A h → RunC P g args h (ResE A h X K)
def callX (X : Xp) (P : Program) (g : FuncId) (args : Array Value) (A : AH) (K : Value → AH → Prop) : Prop := match X with | none => CallA P g args A K | some X => CallE P g args A X K
def panX (X : Xp) (v : Value) (A : AH) : Prop := match X, v with
  | some X, .iface t u => X [{ v := .iface t u, recovered := false }] A
  | _, _ => False
structure Imp where
  l : List Nat
  X : Xp
def PureA (P : Program) (g : FuncId) (args : Array Value) (A : AH) (v : Value) : Prop := (callable P g = true → P.inits.idxOf? g = none) ∧ ∀ h, Sat A h → RunC P g args h fun e h' => e = .returned v ∧ Grew h h'
open Classical in
noncomputable def valA (P : Program) (g : FuncId) (args : Array Value) (A : AH) : Option Value := if H : ∃ v, PureA P g args A v then some H.choose else none
noncomputable def CalN (P : Program) (imp : Imp) (g : FuncId) (args : Array Value) (A : AH) (ν : Nu) (n : Nat) (K : Nu → Nat → Value → AH → Prop) (_t : Tg K := ()) : Prop :=
  if g ∈ imp.l then callX imp.X P g args A fun v A' => ∀ ν', Fresh ν' A' → K ν' 0 v A' else bnd (valA P g args A) fun v => K ν n v A
noncomputable def callN (P : Program) (imp : Imp) (f : Value) (vs : List Value) (A : AH) (ν : Nu) (n : Nat) (K : Nu → Nat → Value → AH → Prop) : Prop :=
  match f with
  | .func (.func g) fs cs => CalN P imp g (fs ++ vs.toArray ++ cs) A ν n K
  | _ => False
def RunA (P : Program) (s : Sem Value) (A : AH) (K : Value → AH → Prop) : Prop := ∀ h, Sat A h → RunW P s h fun v h' => ∃ A', Sat A' h' ∧ Keep A h A' h' ∧ K v A'
def ReadA (P : Program) (s : Sem Value) (A : AH) (v : Value) : Prop := ∀ w : World, Sat A w.heap → s.run P w = .ok v w
open Classical in
noncomputable def readA (P : Program) (s : Sem Value) (A : AH) : Option Value := if H : ∃ v, ReadA P s A v then some H.choose else none
noncomputable def SemR (P : Program) (s : Sem Value) (A : AH) (ν : Nu) (n : Nat) (K : Nu → Nat → Value → AH → Prop) (_t : Tg K := ()) : Prop := bnd (readA P s A) fun v => K ν n v A
def SemN (P : Program) (s : Sem Value) (A : AH) (ν : Nu) (n : Nat) (K : Nu → Nat → Value → AH → Prop) (_t : Tg K := ()) : Prop := RunA P s A fun v A' => ∀ ν', Fresh ν' A' → K ν' 0 v A'
def rdA (s : Option (Bool × Nat)) (o : Option Obj) (a : Addr) : Option Value := match s with
  | some (true, n) => if a.spot = none then aggO (rdCS o a.off n) else none
  | some (false, _) => if a.spot = none then cellS o a.off else none
  | none => none
def rdVarA (P : Program) (A : AH) (t : TypeId) (a : Addr) : Option Value := rdA (shp P t) (look A a.block) a
def wrO (A : AH) (b : Nat) (o : Option Obj) (i : Nat) (vs : List Value) : Option AH := match o with
  | some (.cells c e fr) => if i + vs.length ≤ c.size ∧ (fr.2 ≤ i ∨ i + vs.length ≤ fr.1) ∧ okCells vs = true then some (putB A b (.cells (splice c i vs) e fr)) else none
  | _ => none
def wrA (A : AH) (a : Addr) (vs : List Value) : Option AH := if a.spot = none then wrO A a.block (look A a.block) a.off vs else none
def lenO (u : Option TypeDesc) (o : Option Obj) (K : Value → Prop) : Prop := lenM u o K
def lenA (P : Program) (t : TypeId) (x : Value) (A : AH) (K : Value → Prop) : Prop :=
  match x with
  | .map (some r) => lenO (P.underlying t) (look A r) K
  | x => lenW P t x #[] K
noncomputable def cnvN (P : Program) (s d : TypeId) (us ud : Option TypeDesc) (x : Value) (A : AH) (ν : Nu) (n : Nat) (K : Nu → Nat → Value → AH → Prop) : Prop :=
  match us, ud with
  | some _, some (.int k) => match x with
    | .int _ m => K ν n (.int k (k.wrap m)) A
    | _ => False
  | some (.int _), some .string => match x with
    | .int _ m => K ν n (.string (Utf8.encode m)) A
    | _ => False
  | some .string, some .string => match x with
    | .string b => K ν n (.string b) A
    | _ => False
  | some (.slice _), some .string => SemR P (convert s d x) A ν n K
  | _, _ => SemN P (convert s d x) A ν n K
def rangeN (P : Program) (t : TypeId) (x : Value) (A : AH) (ν : Nu) (n : Nat) (K : Nu → Nat → Value → AH → Prop) : Prop := match x with
  | .string s => need (P.underlying t = some .string) (K ν (n + 1) (.pointer (some ⟨ν n, 0, none⟩)) ((ν n, .stringIter s 0) :: A))
  | x => SemN P (Instr.range t x) A ν n K
def nextO (r : Nat) (o : Option Obj) (A : AH) (ν : Nu) (n : Nat) (K : Nu → Nat → Value → AH → Prop) : Prop := match o with
  | some (.stringIter s pos) => ifB (decide (pos < s.size)) (K ν n (.tuple #[.bool true, .int .i64 pos, .int .i32 (Utf8.decode s pos).1]) (putB A r (.stringIter s (pos + (Utf8.decode s pos).2)))) (K ν n (.tuple #[.bool false]) A)
  | _ => False
def nextN (P : Program) (x : Value) (st : Bool) (ty : TypeId) (A : AH) (ν : Nu) (n : Nat) (K : Nu → Nat → Value → AH → Prop) : Prop := match x, st with
  | .pointer (some ⟨r, 0, none⟩), true => nextO r (look A r) A ν n K
  | x, st => SemN P (Instr.next x st ty) A ν n K
def resOA (P : Program) (ρ : Env) (A : AH) : ResultVar → Option Value
  | .tmp t => get ρ t
  | .cell s ty => match oAddr (get ρ s) with | some a => rdVarA P A ty a | none => none
def resLA (P : Program) (ρ : Env) (A : AH) : List ResultVar → Option (List Value)
  | [] => some []
  | r :: l => consL (resOA P ρ A r) (resLA P ρ A l)
noncomputable def stepA (P : Program) (imp : Imp) (nt : Nat) (o : Oper) (ν : Nu) (n : Nat) (ρ : Env) (A : AH) (K : Nu → Nat → Env → AH → Prop) : Prop :=
  match o.op with
  | .call { callee := .value f, args, .. } => bnd (evO ρ f) fun fv => bnd (evL ρ args.toList) fun vs => callN P imp fv vs A ν n fun ν n v A => putK nt o.dst v ρ fun ρ' => K ν n ρ' A
  | .load t x => bnd (evO ρ x) fun p => bnd (addrOf p) fun a => bnd (rdVarA P A t a) fun v => putK nt o.dst v ρ fun ρ' => K ν n ρ' A
  | .store t x y => bnd (evO ρ x) fun p => bnd (addrOf p) fun a => bnd (evO ρ y) fun v => bnd (shp P t) fun s => need (v.cells.size = s.2) (bnd (wrA A a v.cells.toList) fun A' => putK nt o.dst undef ρ fun ρ' => K ν n ρ' A')
  | .alloc e => bnd (zro P e) fun z => putK nt o.dst (.pointer (some ⟨ν n, 0, none⟩)) ρ fun ρ' => K ν (n + 1) ρ' ((ν n, .cells z.cells e) :: A)
  | .box e x => bnd (evO ρ x) fun v => putK nt o.dst (.pointer (some ⟨ν n, 0, none⟩)) ρ fun ρ' => K ν (n + 1) ρ' ((ν n, .cells v.cells e) :: A)
  | .buildSlice t m ps => bnd (evP ρ ps.toList) fun vs => bnd (sliceCells P t m vs) fun r => putK nt o.dst (.slice (some ⟨ν n, 0, none⟩) m m) ρ fun ρ' => K ν (n + 1) ρ' ((ν n, .cells r.2 r.1) :: A)
  | .makeMap _ none => putK nt o.dst (.map (some (ν n))) ρ fun ρ' => K ν (n + 1) ρ' ((ν n, .map #[] 0) :: A)
  | .convert s d x => bnd (evO ρ x) fun v => cnvN P s d (P.underlying s) (P.underlying d) v A ν n fun ν n u A => putK nt o.dst u ρ fun ρ' => K ν n ρ' A
  | .makeSlice t l c => bnd (evO ρ l) fun lv => bnd (evO ρ c) fun cv => SemN P (Instr.makeSlice t lv cv) A ν n fun ν n u A => putK nt o.dst u ρ fun ρ' => K ν n ρ' A
  | .lookup t x i ok => bnd (evO ρ x) fun m => bnd (evO ρ i) fun k => SemR P (Instr.lookup t m k ok) A ν n fun ν n u A => putK nt o.dst u ρ fun ρ' => K ν n ρ' A
  | .mapUpdate t x i y => bnd (evO ρ x) fun m => bnd (evO ρ i) fun k => bnd (evO ρ y) fun v => SemN P (do Instr.mapUpdate t m k v; Pure.pure undef) A ν n fun ν n u A => putK nt o.dst u ρ fun ρ' => K ν n ρ' A
  | .insert t x i y => bnd (evO ρ x) fun m => bnd (evO ρ i) fun k => bnd (evO ρ y) fun v => SemN P (do Instr.mapUpdate t m k v; Pure.pure undef) A ν n fun ν n u A => putK nt o.dst u ρ fun ρ' => K ν n ρ' A
  | .range t x => bnd (evO ρ x) fun v => rangeN P t v A ν n fun ν n u A => putK nt o.dst u ρ fun ρ' => K ν n ρ' A
  | .next x s => bnd (evO ρ x) fun v => nextN P v s o.type A ν n fun ν n u A => putK nt o.dst u ρ fun ρ' => K ν n ρ' A
  | .typeAssert x t a ok => bnd (evO ρ x) fun v => SemR P (Instr.typeAssert v t a ok) A ν n fun ν n u A => putK nt o.dst u ρ fun ρ' => K ν n ρ' A
  | .call { callee := .builtin b, args, argTypes } => bnd (evL ρ args.toList) fun vs =>
    match b, vs, argTypes.toList with
    | .len, [v], [t] => lenA P t v A fun u => putK nt o.dst u ρ fun ρ' => K ν n ρ' A
    | .append, _, _ => SemN P (Builtin.append_ argTypes o.type vs.toArray) A ν n fun ν n u A => putK nt o.dst u ρ fun ρ' => K ν n ρ' A
    | .cap, _, _ => SemR P (Builtin.cap_ argTypes o.type vs.toArray) A ν n fun ν n u A => putK nt o.dst u ρ fun ρ' => K ν n ρ' A
    | .copy, _, _ => SemN P (Builtin.copy_ argTypes o.type vs.toArray) A ν n fun ν n u A => putK nt o.dst u ρ fun ρ' => K ν n ρ' A
    | .delete, _, _ => SemN P (Builtin.delete_ argTypes o.type vs.toArray) A ν n fun ν n u A => putK nt o.dst u ρ fun ρ' => K ν n ρ' A
    | .clear, _, _ => SemN P (Builtin.clear_ argTypes o.type vs.toArray) A ν n fun ν n u A => putK nt o.dst u ρ fun ρ' => K ν n ρ' A
    | .unsafeSliceData, _, _ => SemR P (Builtin.unsafeSliceData_ argTypes o.type vs.toArray) A ν n fun ν n u A => putK nt o.dst u ρ fun ρ' => K ν n ρ' A
    | .unsafeString, _, _ => SemN P (Builtin.unsafeString_ argTypes o.type vs.toArray) A ν n fun ν n u A => putK nt o.dst u ρ fun ρ' => K ν n ρ' A
    | .max, [.int k x, .int _ y], _ => putK nt o.dst (.int k (if x < y then y else x)) ρ fun ρ' => K ν n ρ' A
    | .min, [.int k x, .int _ y], _ => putK nt o.dst (.int k (if y < x then y else x)) ρ fun ρ' => K ν n ρ' A
    | _, _, _ => False
  | .panic x => bnd (evO ρ x) fun v => panX imp.X v A
  | op => need (freeOp P op = true) (stepW P nt o ρ #[] (fun ρ' _ => K ν n ρ' A) fun _ _ => False)
noncomputable def denOpsA (P : Program) (imp : Imp) (nt : Nat) (all : List Oper) : Nat → Option (Nat × Bool) → List Oper → Nu → Nat → Env → AH → (Nu → Nat → Env → AH → Prop) → Prop
  | 0, _, _, _, _, _, _, _ => False
  | _ + 1, _, [], ν, n, ρ, A, K => K ν n ρ A
  | m + 1, cur, o :: rest, ν, n, ρ, A, K =>
    if o.guard = cur then stepA P imp nt o ν n ρ A fun ν n ρ' A => denOpsA P imp nt all m cur rest ν n ρ' A K
    else match o.guard with
      | none => False
      | some (j, want) => bnd (slotOf all j) fun s => bnd (get ρ s) fun v => match v with
        | .bool b => need (grpOk all s j want [] (grpOf cur (o :: rest)) = true)
          (match pureG (grpOf cur (o :: rest)), aftOf cur (o :: rest) with
          | true, p :: after => match closes want s p.op with
            | some y => denOpsA P imp nt all m (some (j, want)) (grpOf cur (o :: rest)) ν n ρ A fun ν n ρ' A => bnd (evO ρ' y) fun c => joinK nt p.dst want b c (hid (grpOf cur (o :: rest)) ρ) fun ρ'' => denOpsA P imp nt all m cur after ν n ρ'' A K
            | none => False
          | _, after => ifB (b == want) (denOpsA P imp nt all m (some (j, want)) (grpOf cur (o :: rest)) ν n ((s, some (.bool want)) :: ρ) A fun ν n ρ' A => denOpsA P imp nt all m cur after ν n ρ' A K) (denOpsA P imp nt all m cur after ν n (hid (grpOf cur (o :: rest)) ((s, some (.bool (!want))) :: ρ)) A K))
        | _ => False
noncomputable def callQA (P : Program) (f : Value) (vs : List Value) (A : AH) (K : Value → Prop) : Prop := match f with
  | .func (.func g) fs cs => need (callable P g = true) (bnd (valA P g (fs ++ vs.toArray ++ cs) A) K)
  | _ => False
noncomputable def cnvQA (P : Program) (s d : TypeId) (us ud : Option TypeDesc) (x : Value) (A : AH) (K : Value → Prop) : Prop :=
  match us, ud with
  | some _, some (.int k) => match x with
    | .int _ m => K (.int k (k.wrap m))
    | _ => False
  | _, _ => bnd (readA P (convert s d x) A) K
noncomputable def stepQA (P : Program) (n : Nat) (o : Oper) (ρ : Env) (A : AH) (K : Env → Prop) : Prop :=
  match o.op with
  | .call { callee := .value f, args, .. } => bnd (evO ρ f) fun fv => bnd (evL ρ args.toList) fun vs => callQA P fv vs A fun v => putK n o.dst v ρ K
  | .load t x => bnd (evO ρ x) fun p => bnd (addrOf p) fun a => bnd (rdVarA P A t a) fun v => putK n o.dst v ρ K
  | .convert s d x => bnd (evO ρ x) fun v => cnvQA P s d (P.underlying s) (P.underlying d) v A fun u => putK n o.dst u ρ K
  | .lookup t x i ok => bnd (evO ρ x) fun m => bnd (evO ρ i) fun k => bnd (readA P (Instr.lookup t m k ok) A) fun u => putK n o.dst u ρ K
  | .call { callee := .builtin b, args, argTypes } => bnd (evL ρ args.toList) fun vs =>
    match b, vs, argTypes.toList with
    | .len, [v], [t] => lenA P t v A fun u => putK n o.dst u ρ K
    | _, _, _ => False
  | op => need (freeOp P op = true) (opW P op o.type ρ #[] fun v _ => putK n o.dst v ρ K)
noncomputable def denQA (P : Program) (n : Nat) (sp : Bool) (all : List Oper) (A : AH) : Nat → Option (Nat × Bool) → List Oper → Env → (Env → Prop) → Prop
  | 0, _, _, _, _ => False
  | _ + 1, _, [], ρ, K => K ρ
  | m + 1, cur, o :: rest, ρ, K =>
    if o.guard = cur then stepQA P n o ρ A (fun ρ' => denQA P n sp all A m cur rest ρ' K)
    else match o.guard with
      | none => False
      | some (j, want) => bnd (slotOf all j) fun s => bnd (get ρ s) fun v => match v with
        | .bool b => need (grpOk all s j want [] (grpOf cur (o :: rest)) = true)
          (match semiG sp (grpOf cur (o :: rest)), aftOf cur (o :: rest) with
          | true, p :: after => match closes want s p.op with
            | some y => denQA P n sp all A m (some (j, want)) (grpOf cur (o :: rest)) ρ (fun ρ' => bnd (evO ρ' y) fun c => joinK n p.dst want b c (hid (grpOf cur (o :: rest)) ρ) fun ρ'' => denQA P n sp all A m cur after ρ'' K)
            | none => False
          | _, after => ifB (b == want) (denQA P n sp all A m (some (j, want)) (grpOf cur (o :: rest)) ((s, some (.bool want)) :: ρ) (fun ρ' => denQA P n sp all A m cur after ρ' K)) (denQA P n sp all A m cur after (hid (grpOf cur (o :: rest)) ((s, some (.bool (!want))) :: ρ)) K))
        | _ => False
def SubE : AH → AH → Prop
  | [], _ => True
  | (b, o) :: A, B => look B b = some o ∧ SubE A B
def SubA (A' A : AH) : Prop := ∀ b o, look A' b = some o → look A b = some o
def softOp (imp : Imp) : Op → Bool
  | .alloc _ | .box .. | .buildSlice .. | .makeMap .. | .store .. | .mapUpdate .. | .insert .. | .makeSlice .. | .range .. | .next .. | .typeAssert .. | .panic .. => false
  | .call { callee := .builtin b, .. } => match b with | .len => true | _ => false
  | .call { callee := .value f, .. } => match f with | .func g => !imp.l.contains g | _ => false
  | _ => true
def freeS : Op → Bool
  | .load .. | .convert .. | .lookup .. | .call _ => false
  | _ => true
def waitsB (ops : Array Oper) (j i : Nat) : Bool := match ops[j]? with | some o => o.after.any (fun e => Region.binds .any e && e.on == i) | none => false
def resetOk (ops : Array Oper) (j : Nat) : Bool := (List.range ops.size).all fun i => i == j || waitsB ops j i || waitsB ops i j || (match ops[i]? with | some o => freeS o.op | none => true)
def rsOf : List (Nat × Nat) → Nat → Bool
  | [], _ => false
  | (i, m) :: l, j => (i == j && m == 2) || rsOf l j
def planSB (imp : Imp) (ops : Array Oper) (rs : Nat → Bool) : List (Nat × Nat) → Array Bool → Bool
  | [], listed => (Region.ready .any ops listed).isEmpty
  | (i, m) :: l, listed => (match ops[i]? with
    | some o => if softOp imp o.op then (Region.ready .any ops listed).contains i && Region.free .any ops listed i else Region.ready .any ops listed == [i] && (if m = 2 then rs i else true)
    | none => false) && planSB imp ops rs l (listed.setIfInBounds i true)
def resetsOk (ops : Array Oper) (rs : Nat → Bool) : Bool := (List.range ops.size).all fun j => !rs j || resetOk ops j
def needS (As A' : AH) (m : Nat) (K : AH → Prop) : Prop := if m = 2 then K A' else need (SubA As A') (if m = 1 then K A' else K As)
noncomputable def opSK (P : Program) (imp : Imp) (nt : Nat) (As : AH) (m : Nat) (ν : Nu) (n : Nat) (ρ : Env) (A : AH) (K : AH → Nu → Nat → Env → AH → Prop) (o : Option Oper) : Prop := match o with
  | some o => if softOp imp o.op = true then stepQA P nt o ρ As fun ρ' => K As ν n ρ' A else stepA P imp nt o ν n ρ A fun ν n ρ' A' => needS As A' m fun As' => K As' ν n ρ' A'
  | none => False
noncomputable def opSG (P : Program) (imp : Imp) (nt : Nat) (all : List Oper) (As : AH) (m : Nat) (ν : Nu) (n : Nat) (ρ : Env) (A : AH) (K : AH → Nu → Nat → Env → AH → Prop) (o : Option Oper) : Prop := match o with
  | some o => match o.guard with
    | none => opSK P imp nt As m ν n ρ A K (some o)
    | some (j, want) => bnd (slotOf all j) fun s => bnd (get ρ s) fun v => ifU want v (opSK P imp nt As m ν n ρ A K (some o)) (putK nt o.dst undef ρ fun ρ' => K As ν n ρ' A)
  | none => False
noncomputable def denSA (P : Program) (imp : Imp) (nt : Nat) (all : List Oper) : List (Nat × Nat) → AH → Nu → Nat → Env → AH → (Nu → Nat → Env → AH → Prop) → Prop
  | [], _, ν, n, ρ, A, K => K ν n ρ A
  | (i, m) :: l, As, ν, n, ρ, A, K => opSG P imp nt all As m ν n ρ A (fun As ν n ρ' A => denSA P imp nt all l As ν n ρ' A K) all[i]?
inductive Pln where
  | q (sp : Bool)
  | p (l : List (Nat × Nat))
def planOf : List (Nat × Pln) → Nat → Option Pln
  | [], _ => none
  | (i, p) :: l, j => if i = j then some p else planOf l j
structure CxA where
  P : Program
  f : FuncId
  fn : Func
  n : Nat
  live : List Nat
  imp : Imp
  plans : List (Nat × Pln)
  R : Value → AH → Prop
def CxA.cx (c : CxA) (A0 : AH) (h0 : Heap) : Cx := ⟨c.P, c.f, c.fn, c.n, c.live, resX c.imp.X A0 h0 c.R⟩
def LoopA [dd : DefD] {c : CxA} {body : Code} {k : List It} (ρ : Env) (A : AH) (_t : Tg (c, body, k)) : Prop := ∀ A0 h0 h, Sat A h → Keep A0 h0 A h → @LoopAt dd (c.cx A0 h0) body k ρ h ()
def MeantA [dd : DefD] {c : CxA} {k : List It} (ρ : Env) (A : AH) (_t : Tg (c, k)) : Prop := ∀ A0 h0 h, Sat A h → Keep A0 h0 A h → @Meant dd (c.cx A0 h0) k ρ h ()
def retA (c : CxA) (ρ : Env) (A : AH) : Prop := bnd (resLA c.P ρ A c.fn.results.toList) fun vs => c.R (one vs) A
noncomputable def denA [dd : DefD] (c : CxA) (k : List It) (ν : Nu) (n : Nat) (ρ : Env) (A : AH) : Prop :=
  match _hk : k with
  | [] => retA c ρ A
  | .blk _ :: k => denA c k ν n ρ A
  | .sc _ :: k => denA c k ν n ρ A
  | .lp body :: k => @LoopA dd c body k (canon c.live ρ) A ()
  | .code .skip :: k => denA c k ν n ρ A
  | .code (.label _) :: k => denA c k ν n ρ A
  | .code .ret :: _ => retA c ρ A
  | .code (.seq x y) :: k => denA c (.code x :: .code y :: k) ν n ρ A
  | .code (.cond x t e) :: k => bnd (evO ρ x) fun v => ifV v (denA c (.code t :: k) ν n ρ A) (denA c (.code e :: k) ν n ρ A)
  | .code (.block id b) :: k => denA c (.code b :: .blk id :: k) ν n ρ A
  | .code (.scope b) :: k => denA c (.code b :: .sc b :: k) ν n ρ A
  | .code (.loop body) :: k => @LoopA dd c body k (canon c.live ρ) A ()
  | .code (.exit id) :: k => match _he : exitK id k with
    | some k' => denA c k' ν n ρ A
    | none => False
  | .code (.region _ ops false) :: k => denOpsA c.P c.imp c.n ops.toList 400 none ops.toList ν n (canon c.live ρ) A (fun ν n ρ' A => denA c k ν n ρ' A)
  | .code (.region id ops true) :: k => match planOf c.plans id with
    | some (.q sp) => denQA c.P c.n sp ops.toList A 400 none ops.toList (canon c.live ρ) (fun ρ' => denA c k ν n ρ' A)
    | some (.p pl) => denSA c.P c.imp c.n ops.toList pl A ν n (canon c.live ρ) A (fun ν n ρ' A => denA c k ν n ρ' A)
    | none => @MeantA dd c (.code (.region id ops true) :: k) (canon c.live ρ) A ()
  | .code _ :: _ => False
termination_by ksz k
decreasing_by
  all_goals simp only [ksz, isz, csz] <;> (try omega)
  have := exitK_sz _ _ _ ‹_›
  omega
def okC (P : Program) (imp : Imp) (plans : List (Nat × Pln)) : Code → Bool
  | .region id ops true => match planOf plans id with
    | some (.q _) => P.follows .mixedOrders && Region.lexB .any ops
    | some (.p pl) => P.follows .mixedOrders && (Region.noSelect ops && (pl.length == ops.size && (resetsOk ops (rsOf pl) && planSB imp ops (rsOf pl) pl (Array.replicate ops.size false))))
    | none => true
  | .seq a b => okC P imp plans a && okC P imp plans b
  | .cond _ a b => okC P imp plans a && okC P imp plans b
  | .block _ b => okC P imp plans b
  | .scope b => okC P imp plans b
  | .loop b => okC P imp plans b
  | _ => true
def okI (P : Program) (imp : Imp) (plans : List (Nat × Pln)) : It → Bool
  | .code c => okC P imp plans c
  | _ => true
def okK (P : Program) (imp : Imp) (plans : List (Nat × Pln)) : List It → Bool
  | [] => true
  | x :: k => okI P imp plans x && okK P imp plans k
noncomputable def denXA [dd : DefD] (c : CxA) (k : Option (List It)) (ν : Nu) (n : Nat) (ρ : Env) (A : AH) : Prop := match k with | some k => denA c k ν n ρ A | none => False
end Go.Vm
