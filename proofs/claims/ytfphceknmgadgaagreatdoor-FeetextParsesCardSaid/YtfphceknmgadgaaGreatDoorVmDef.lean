/-
A symbolic evaluator for the model's code over heaps (arrays of blocks). This text holds its definition alone; that it is sound against the model stands in the next text.
Conditions: none. Generic: it speaks of no program.
-/
import Derived.WalkKit
import Derived.Deep.Quiet
import Derived.Deep.Draws
set_option linter.unusedSimpArgs false
set_option linter.unusedVariables false
namespace Go.Vm
theorem An{a b:Prop}(x:a)(y:b):a∧b:=⟨x,y⟩
abbrev AY:=Array Obj
abbrev Ba:=List (Nat×Option Value)
def get:Ba→Nat→Option Value
 | [],_=>none
 |(s,v)::ρ,t=>if s=t then v else get ρ t
def RN(s:Nat)(o:Option Value)(ρ:Ba):Ba:=match o with|some v=>(s,some v)::ρ|none=>ρ
def canon:List Nat→Ba→Ba
 | [],_=>[]
 |s::l,ρ=>RN s (get ρ s) (canon l ρ)
def BE(ρ:Ba):Operand→Option Value
 | .tmp t=>get ρ t
 | .const v=>some v
 | .global g=>some (.pointer (some ⟨g,0,none⟩))
 | .func f=>some (.func (.func f) #[] #[])
def Dy(o:Option Value)(l:Option (List Value)):Option (List Value):=match o,l with|some v,some vs=>some (v::vs)|_,_=>none
def GA(ρ:Ba):List Operand→Option (List Value)
 | []=>some []
 |x::l=>Dy (BE ρ x) (GA ρ l)
def Om(i:Nat)(o:Option Value)(l:Option (List (Nat×Value))):Option (List (Nat×Value)):=match o,l with|some v,some vs=>some ((i,v)::vs)|_,_=>none
def AW(ρ:Ba):List (Nat×Operand)→Option (List (Nat×Value))
 | []=>some []
 |(i,x)::l=>Om i (BE ρ x) (AW ρ l)
def Tg{α:Type}(_:α):Type:=Unit
def Ay{α:Type}(o:Option α)(K:α→Prop)(_t:Tg K:=()):Prop:=match o with|some v=>K v|none=>False
theorem Sd{α:Type}(v:α)(K:α→Prop):Ay (some v) K=K v:=rfl
def Bf(c:Prop)(K:Prop):Prop:=c∧K
@[congr] theorem need_congr {c c' K:Prop} (h:c=c'):Bf c K=Bf c' K:=by rw[h]
theorem Db(K:Prop):Bf True K=K:=by simp[Bf]
def Jx(b:Bool)(A B:Prop):Prop:=(b=true→A)∧(b=false→B)
@[congr] theorem ifB_congr {b b':Bool} {A B:Prop} (h:b=b'):Jx b A B=Jx b' A B:=by rw[h]
theorem La(A B:Prop):Jx true A B=A:=by simp[Jx]
theorem J6(A B:Prop):Jx false A B=B:=by simp[Jx]
def QG(v:Value)(A B:Prop):Prop:=match v with| .bool b=>Jx b A B|_=>False
theorem Qj(b:Bool)(A B:Prop):QG (.bool b) A B=Jx b A B:=rfl
@[congr] theorem ifV_congr {v v':Value} {A B:Prop} (h:v=v'):QG v A B=QG v' A B:=by rw[h]
def Dk(ρ:Ba)(K:Ba→Prop)(_t:Tg K:=()):Prop:=K ρ
def Cw(P:Program)(t:TypeId):Option (Bool×Nat):=
 match P.info? t,P.underlying t with
 |some i,some (.struct _)=>some (true,i.size)
 |some i,some (.array _ _)=>some (true,i.size)
 |some i,some _=>some (false,i.size)
 |_,_=>none
def Cd(P:Program)(t:TypeId)(i:Nat):Option (Nat×Bool×Nat):=
 match P.underlying t with
 |some (.struct fs)=>match fs[i]? with
  |some f=>(Cw P f.type).map fun s=>(f.offset,s)
  |none=>none
 |_=>none
def DD(P:Program)(t:TypeId):Option Value:=(P.info? t).bind (·.zero)
def O5(P:Program)(t:TypeId):Option (TypeId×Nat×Nat):=
 match P.underlying t with
 |some (.slice e)=>(P.info? e).map fun i=>(e,i.size,i.bytes)
 |_=>none
def AD(P:Program)(f:FuncId):Bool:=match P.funcs[f]? with|some fn=>fn.name != "runtime.NumGoroutine" &&fn.body.isSome|none=>false
def G9(h:AY)(a:Addr):Option Value:=
 match h[a.block]? with
 |some (.cells c _ _)=>if a.spot.isSome then none else c[a.off]?
 |_=>none
def FR(h:AY)(a:Addr)(n:Nat):Option (Array Value):=
 match h[a.block]? with
 |some (.cells c _ _)=>if a.spot=none∧a.off+n≤c.size then some (c.extract a.off (a.off+n))else none
 |_=>none
def Gj(o:Option (Array Value)):Option Value:=match o with|some c=>some (.agg c)|none=>none
def JW(P:Program)(h:AY)(t:TypeId)(a:Addr):Option Value:=
 match Cw P t with
 |some (true,n)=>Gj (FR h a n)
 |some (false,_)=>G9 h a
 |none=>none
def Cr(c:Array Value)(o:Nat):List Value→Array Value
 | []=>c
 |v::l=>Cr (c.setIfInBounds o v) (o+1) l
def Ds:List Value→Bool
 | []=>true
 |v::l=>v.oneCell'&&Ds l
def Fq(h:AY)(a:Addr)(vs:List Value):Option AY:=
 match h[a.block]? with
 | some (.cells c e fr)=>if a.spot=none∧a.off+vs.length≤c.size∧(fr.2≤a.off∨a.off+vs.length≤fr.1)∧Ds vs=true then
   some (h.setIfInBounds a.block (.cells (Cr c a.off vs) e fr))else none
 |_=>none
def FM(P:Program)(t:TypeId)(cs:Array Value)(off:Nat):Option Value:=
 match Cw P t with
 |some (true,n)=>some (.agg (cs.extract off (off+n)))
 |some (false,_)=>cs[off]?
 |none=>none
def Hu(a b:Option Bool):Option Bool:=match a,b with|some x,some y=>some (x&&y)|_,_=>none
def eX(eq:TypeId→Value→Value→Option Bool)(t:TypeId)(a b:Option Value):Option Bool:=match a,b with|some x,some y=>eq t x y|_,_=>none
def YB(P:Program)(eq:TypeId→Value→Value→Option Bool)(xs ys:Array Value):List Field→Option Bool
 | []=>some true
 |f::l=>if f.name= "_" then YB P eq xs ys l else Hu (eX eq f.type (FM P f.type xs f.offset) (FM P f.type ys f.offset)) (YB P eq xs ys l)
def oE(P:Program)(eq:TypeId→Value→Value→Option Bool)(te:TypeId)(n:Nat)(xs ys:Array Value):Nat→Nat→Option Bool
 |0,_=>some true
 |k+1,i=>Hu (eX eq te (FM P te xs (i*n)) (FM P te ys (i*n))) (oE P eq te n xs ys k (i+1))
def nT(P:Program)(eq:TypeId→Value→Value→Option Bool)(te:TypeId)(len:Nat)(xs ys:Array Value):Option TypeInfo→Option Bool
 |some j=>oE P eq te j.size xs ys len 0
 |none=>none
def He(P:Program):Nat→TypeId→Value→Value→Option Bool
 |0,_,_,_=>none
 |d+1,t,x,y=>
  match P.underlying t,x,y with
  |some .bool,.bool a,.bool b=>some (a==b)
  |some (.int _),.int k a,.int k' b=>if k=k' then some (a==b)else none
  |some .string,.string a,.string b=>some (a.toList==b.toList)
  |some (.pointer _),.pointer none,.pointer b=>some b.isNone
  |some (.pointer _),.pointer (some _),.pointer none=>some false
  |some (.pointer te),.pointer (some a),.pointer (some b)=>if a=b∧(P.info? te).isSome=true then some true else none
  |some (.slice _),.slice none _ _,.slice b _ _=>some b.isNone
  |some (.slice _),.slice (some _) _ _,.slice none _ _=>some false
  |some (.map _ _),.map none,.map b=>some b.isNone
  |some (.map _ _),.map (some _),.map none=>some false
  |some (.struct fs),.agg xs,.agg ys=>if P.stoodInHeld t then none else YB P (He P d) xs ys fs.toList
  |some (.array len te),.agg xs,.agg ys=>nT P (He P d) te len xs ys (P.info? te)
  |_,_,_=>none
def D7(P:Program)(t:TypeId)(x y:Value):Bool:=match x,y with| .agg _,.agg _=> !P.eqGuardType P.depth t| .nilIface,.nilIface=>false|_,_=>true
def Cg(P:Program)(op:BinOp)(t:TypeId)(x y:Value)(K:Value→Prop)(_t:Tg K:=()):Prop:=
 match x,y with
 | .int k a,.int k' b=>
  match op with
  | .add=>Bf (k=k') (K (.int k (k.wrap (a+b))))
  | .sub=>Bf (k=k') (K (.int k (k.wrap (a - b))))
  | .mul=>Bf (k=k') (K (.int k (k.wrap (a*b))))
  | .quo=>Bf (k=k'∧b≠0) (K (.int k (k.wrap (a.tdiv b))))
  | .rem=>Bf (k=k'∧b≠0) (K (.int k (a.tmod b)))
  | .eql=>Bf (k=k') (K (.bool (a==b)))
  | .neq=>Bf (k=k') (K (.bool (a !=b)))
  | .lss=>Bf (k=k') (K (.bool (decide (a<b))))
  | .leq=>Bf (k=k') (K (.bool (decide (a≤b))))
  | .gtr=>Bf (k=k') (K (.bool (decide (b<a))))
  | .geq=>Bf (k=k') (K (.bool (decide (b≤a))))
  | .and=>Bf (k=k') (K (.int k (k.wrap (BitVec.ofInt k.bits a &&& BitVec.ofInt k.bits b).toNat)))
  | .or=>Bf (k=k') (K (.int k (k.wrap (BitVec.ofInt k.bits a ||| BitVec.ofInt k.bits b).toNat)))
  | .xor=>Bf (k=k') (K (.int k (k.wrap (BitVec.ofInt k.bits a ^^^ BitVec.ofInt k.bits b).toNat)))
  | .andNot=>Bf (k=k') (K (.int k (k.wrap (BitVec.ofInt k.bits a &&& ~~~ (BitVec.ofInt k.bits b)).toNat)))
  | .shl=>Bf (0≤b) (K (.int k (k.wrap (a*2 ^ (min b.toNat k.bits)))))
  | .shr=>Bf (0≤b) (K (.int k (a.fdiv (2 ^ (min b.toNat k.bits)))))
 | .string a,.string b=>
  match op with
  | .add=>Bf (a.size+b.size≤9223372036854775807) (K (.string (a++b)))
  | .eql=>K (.bool (a.toList==b.toList))
  | .neq=>K (.bool (!(a.toList==b.toList)))
  | .lss=>K (.bool (Op.bytesLess a.toList b.toList))
  | .leq=>K (.bool (Op.bytesLess a.toList b.toList||a.toList==b.toList))
  | .gtr=>K (.bool (!(Op.bytesLess a.toList b.toList||a.toList==b.toList)))
  | .geq=>K (.bool (!(Op.bytesLess a.toList b.toList)))
  |_=>False
 |x,y=>
  match op with
  | .eql=>Bf (D7 P t x y=true) (Ay (He P 10000 t x y) fun b=>K (.bool b))
  | .neq=>Bf (D7 P t x y=true) (Ay (He P 10000 t x y) fun b=>K (.bool (!b)))
  |_=>False
def oL(op:UnOp)(x:Value):Option Value:=
 match op,x with
 | .neg,.int k n=>some (.int k (k.wrap (0 - n)))
 | .not,.bool b=>some (.bool (!b))
 |_,_=>none
def DW:Value→Option Addr
 | .pointer (some a)=>some a
 |_=>none
def cK(P:Program)(t:TypeId)(i:Nat)(x:Value):Option Value:=
 match x,Cd P t i with
 | .agg cs,some (off,true,n)=>some (.agg (cs.extract off (off+n)))
 | .agg cs,some (off,false,_)=>cs[off]?
 |_,_=>none
def CY(P:Program)(t:TypeId):Bool:=match P.underlying t with|some (.struct fs)=>fs.toList.all fun f=>(P.info? f.type).isSome|_=>false
def Jy(P:Program)(t:TypeId):Array Value→List (Nat×Value)→Option (Array Value)
 |c,[]=>some c
 |c,(i,v)::l=>match Cd P t i with
  |some (off,_,n)=>if v.cells.size=n∧off+n≤c.size then Jy P t (Cr c off v.cells.toList) l else none
  |none=>none
def ev(P:Program)(t:TypeId)(ok:Bool)(z:Option Value)(vs:List (Nat×Value)):Option Value:=match ok,z with|true,some z=>Gj (Jy P t z.cells vs)|_,_=>Gj (P.built t vs)
def ah(P:Program)(t:TypeId)(vs:List (Nat×Value)):Option Value:=ev P t (CY P t) (DD P t) vs
def Cy(P:Program)(t:TypeId)(n:Nat)(vs:List (Nat×Value)):Option (TypeId×Array Value):=
 match P.underlying t with
 | some (.slice e)=>match P.info? e with
  | some ie=>match ie.zero with
   |some z=>if n*ie.size>2 ^ 24 then none else
    match Instr.fill (fun i=>some (i*ie.size,ie.size)) ((Array.range (n*ie.size)).map ((if n*ie.size=0 then #[]else z.cells)[· % (if n*ie.size=0 then #[]else z.cells).size]!)) vs with
    |some c=>some (e,c)
    |none=>none
   |none=>none
  |none=>none
 |_=>none
def BV(w w':World):Prop:=w'.os=w.os∧w'.tape=w.tape∧w'.output=w.output
def DA(P:Program)(s:Sem Value)(h:AY)(K:Value→AY→Prop)(_t:Tg K:=()):Prop:=
 ∀w:World,w.heap=h→ ∃v w',s.run P w=.ok v w'∧BV w w'∧K v w'.heap
def CallsH(P:Program)(f:FuncId)(args:Array Value)(h:AY)(R:Ending→AY→Prop):Prop:=
 ∀w:World,w.heap=h→Calls P f args w fun e w'=>R e w'.heap∧BV w w'
def NH(P:Program)(t:TypeId)(x i:Value)(K:Value→Prop):Prop:=
 match x,i with
 | .string s,.int _ n=>Bf (P.underlying t=some .string∧0≤n) (Ay s.data[n.toNat]? fun b=>K (.int .u8 b.toNat))
 | .agg cs,.int _ n=>match P.underlying t with
  |some (.array len e)=>Bf (0≤n∧n<len) (Ay (Cw P e) fun s=>Ay (FM P e cs (n.toNat*s.2)) K)
  |_=>False
 |_,_=>False
def NF(P:Program)(t:TypeId)(x i:Value)(K:Value→Prop):Prop:=
 match x,i with
 | .slice (some a) len _,.int _ n=>Ay (O5 P t) fun e=>Bf (0≤n∧n<len) (K (.pointer (some (a.add (n.toNat*e.2.1)))))
 | .pointer (some a),.int _ n=>match P.underlying t with
  |some (.array len e)=>Ay (Cw P e) fun s=>Bf (0≤n∧n<len) (K (.pointer (some (a.add (n.toNat*s.2)))))
  |_=>False
 |_,_=>False
def Cv:Option Value→Nat→Option Int
 |none,d=>some d
 |some (.int _ n),_=>some n
 |_,_=>none
def bA(P:Program)(t:TypeId)(x:Value)(lo hi:Option Value)(K:Value→Prop):Prop:=
 match x with
 | .string s=>Ay (Cv lo 0) fun l=>Ay (Cv hi s.size) fun r=>Bf (P.underlying t=some .string∧0≤l∧l≤r∧r≤s.size) (K (.string (s.extract l.toNat r.toNat)))
 | .slice a len cap=>Ay (O5 P t) fun e=>Ay (Cv lo 0) fun l=>Ay (Cv hi len) fun r=>
   Bf (0≤l∧l≤r∧r≤cap) (K (.slice (if cap=l.toNat then a else a.map (·.add (l.toNat*e.2.1))) (r.toNat - l.toNat) (cap - l.toNat)))
 |_=>False
def NB(P:Program)(t:TypeId)(x:Value)(lo hi:Option Value)(mx:Value)(K:Value→Prop):Prop:=
 match x with
 | .slice a len cap=>Ay (O5 P t) fun e=>Ay (Cv lo 0) fun l=>Ay (Cv hi len) fun r=>Ay (Cv (some mx) cap) fun m=>
   Bf (hi≠none∧0≤l∧l≤r∧r≤m∧m≤cap) (K (.slice (if m=l then a else a.map (·.add (l.toNat*e.2.1))) (r.toNat - l.toNat) (m.toNat - l.toNat)))
 |_=>False
def Ea(ρ:Ba):Option Operand→Option (Option Value)
 |none=>some none
 |some x=>(BE ρ x).map some
def GM(P:Program)(t:TypeId)(x:Value)(h:AY)(K:Value→Prop):Prop:=
 match x with
 | .string s=>Bf (P.underlying t=some .string) (K (.int .i64 s.size))
 | .slice _ n _=>Ay (O5 P t) fun _=>K (.int .i64 n)
 | .map none=>match P.underlying t with|some (.map _ _)=>K (.int .i64 0)|_=>False
 | .map (some r)=>match P.underlying t,h[r]? with|some (.map _ _),some (.map es _)=>K (.int .i64 es.size)|_,_=>False
 |_=>False
def Qq(P:Program)(s d:TypeId)(x:Value)(h:AY)(K:Value→AY→Prop):Prop:=
 match P.underlying s,P.underlying d with
 |some _,some (.int k)=>match x with
  | .int _ n=>K (.int k (k.wrap n)) h
  |_=>False
 |some (.int _),some .string=>match x with
  | .int _ n=>K (.string (Utf8.encode n)) h
  |_=>False
 |some .string,some .string=>match x with
  | .string b=>K (.string b) h
  |_=>False
 |_,_=>DA P (convert s d x) h K
def HL(P:Program)(o:Op)(ty:TypeId)(ρ:Ba)(h:AY)(K:Value→AY→Prop):Prop:=
 match o with
 | .move x=>Ay (BE ρ x) fun v=>K v h
 | .assign x=>Ay (BE ρ x) fun v=>K v h
 | .pick c a b=>Ay (BE ρ c) fun v=>QG v (Ay (BE ρ a) fun u=>K u h) (Ay (BE ρ b) fun u=>K u h)
 | .alloc e=>Ay (DD P e) fun z=>K (.pointer (some ⟨h.size,0,none⟩)) (h.push (.cells z.cells e))
 | .box e x=>Ay (BE ρ x) fun v=>K (.pointer (some ⟨h.size,0,none⟩)) (h.push (.cells v.cells e))
 | .build t ps=>Ay (AW ρ ps.toList) fun vs=>Ay (ah P t vs) fun v=>K v h
 | .buildSlice t n ps=>Ay (AW ρ ps.toList) fun vs=>Ay (Cy P t n vs) fun r=>K (.slice (some ⟨h.size,0,none⟩) n n) (h.push (.cells r.2 r.1))
 | .load t x=>Ay (BE ρ x) fun p=>Ay (DW p) fun a=>Ay (JW P h t a) fun v=>K v h
 | .store t x y=>Ay (BE ρ x) fun p=>Ay (DW p) fun a=>Ay (BE ρ y) fun v=>Ay (Cw P t) fun s=>Bf (v.cells.size=s.2) (Ay (Fq h a v.cells.toList) fun h'=>K undef h')
 | .nilCheck x=>Ay (BE ρ x) fun p=>Ay (DW p) fun _=>K p h
 | .binOp op t x y _=>Ay (BE ρ x) fun a=>Ay (BE ρ y) fun b=>Cg P op t a b fun v=>K v h
 | .unOp op _ x=>Ay (BE ρ x) fun v=>Ay (oL op v) fun u=>K u h
 | .convert s d x=>Ay (BE ρ x) fun v=>Qq P s d v h K
 | .makeInterface t x=>Ay (BE ρ x) fun v=>Bf (P.concrete t=true) (K (.iface t v) h)
 | .makeFunc fn fs cs=>Ay (GA ρ fs.toList) fun us=>Ay (GA ρ cs.toList) fun vs=>K (.func fn us.toArray vs.toArray) h
 | .makeMap _ none=>K (.map (some h.size)) (h.push (.map #[] 0))
 | .makeSlice t l c=>Ay (BE ρ l) fun lv=>Ay (BE ρ c) fun cv=>DA P (Instr.makeSlice t lv cv) h K
 | .slice t x lo hi none=>Ay (BE ρ x) fun v=>Ay (Ea ρ lo) fun l=>Ay (Ea ρ hi) fun r=>bA P t v l r fun u=>K u h
 | .slice t x lo hi (some m)=>Ay (BE ρ x) fun v=>Ay (Ea ρ lo) fun l=>Ay (Ea ρ hi) fun r=>Ay (BE ρ m) fun mv=>NB P t v l r mv fun u=>K u h
 | .fieldAddr t x i=>Ay (BE ρ x) fun p=>Ay (DW p) fun a=>Ay (Cd P t i) fun f=>Bf (f.2.2≠0) (K (.pointer (some (a.add f.1))) h)
 | .field t x i=>Ay (BE ρ x) fun v=>Ay (cK P t i v) fun u=>K u h
 | .indexAddr t x i=>Ay (BE ρ x) fun v=>Ay (BE ρ i) fun n=>NF P t v n fun u=>K u h
 | .index t x i=>Ay (BE ρ x) fun v=>Ay (BE ρ i) fun n=>NH P t v n fun u=>K u h
 | .lookup t x i ok=>Ay (BE ρ x) fun m=>Ay (BE ρ i) fun k=>DA P (Instr.lookup t m k ok) h K
 | .mapUpdate t x i y=>Ay (BE ρ x) fun m=>Ay (BE ρ i) fun k=>Ay (BE ρ y) fun v=>DA P (do Instr.mapUpdate t m k v;Pure.pure undef) h K
 | .insert t x i y=>Ay (BE ρ x) fun m=>Ay (BE ρ i) fun k=>Ay (BE ρ y) fun v=>DA P (do Instr.mapUpdate t m k v;Pure.pure undef) h K
 | .range t x=>Ay (BE ρ x) fun v=>DA P (Instr.range t v) h K
 | .next x s=>Ay (BE ρ x) fun v=>DA P (Instr.next v s ty) h K
 | .typeAssert x t a ok=>Ay (BE ρ x) fun v=>DA P (Instr.typeAssert v t a ok) h K
 | .extract x i=>Ay (BE ρ x) fun v=>match v with| .tuple vs=>Ay vs[i]? fun u=>K u h|_=>False
 | .call {callee:=.builtin b,args,argTypes}=>Ay (GA ρ args.toList) fun vs=>
  match b,vs,argTypes.toList with
  | .len,[v],[t]=>GM P t v h fun u=>K u h
  | .append,_,_=>DA P (Builtin.append_ argTypes ty vs.toArray) h K
  | .cap,_,_=>DA P (Builtin.cap_ argTypes ty vs.toArray) h K
  | .copy,_,_=>DA P (Builtin.copy_ argTypes ty vs.toArray) h K
  | .delete,_,_=>DA P (Builtin.delete_ argTypes ty vs.toArray) h K
  | .clear,_,_=>DA P (Builtin.clear_ argTypes ty vs.toArray) h K
  | .unsafeSliceData,_,_=>DA P (Builtin.unsafeSliceData_ argTypes ty vs.toArray) h K
  | .unsafeString,_,_=>DA P (Builtin.unsafeString_ argTypes ty vs.toArray) h K
  | .max,[.int k x,.int _ y],_=>K (.int k (if x<y then y else x)) h
  | .min,[.int k x,.int _ y],_=>K (.int k (if y<x then y else x)) h
  |_,_,_=>False
 |_=>False
def BJ(n:Nat)(dst:Option Nat)(v:Value)(ρ:Ba)(K:Ba→Prop):Prop:=match dst with|some d=>Bf (d<n) (K ((d,some v)::ρ))|none=>K ρ
def el{n:Nat}{dst:Option Nat}(ρ:Ba){K:Ba→AY→Prop}{X:List PanicEntry→AY→Prop}(_t:Tg (n,dst,K,X))(e:Ending)(h:AY):Prop:=
 match e with
 | .returned v=>BJ n dst v ρ fun ρ'=>K ρ' h
 | .panicked ch=>X ch h
 | .outgrown=>False
def bx(P:Program)(g:FuncId)(args:Array Value)(h:AY)(Q:Ending→AY→Prop):Prop:=
 ∀w:World,w.heap=h→ ∃v w',(callFunc g args).run P w=.ok (.value v) w'∧BV w w'∧Q (.returned v) w'.heap
def Ue(P:Program)(f:FuncId)(args:Array Value)(h:AY)(p:Value×AY):Prop:=P.inits.idxOf? f=none∧CallsH P f args h fun e h'=>e=.returned p.1∧h'=p.2
open Classical in
noncomputable def Hm(P:Program)(f:FuncId)(args:Array Value)(h:AY):Option (Value×AY):=if H: ∃p,Ue P f args h p then some H.choose else none
def Bj(P:Program)(f:FuncId)(args:Array Value)(h:AY)(Q:Ending→AY→Prop):Prop:=match Hm P f args h with|some p=>Q (.returned p.1) p.2|none=>CallsH P f args h Q
def TB(P:Program)(f:Value)(vs:List Value)(h:AY)(Q:Ending→AY→Prop):Prop:=
 match f with
 | .func (.func g) fs cs=>if AD P g=true then Bj P g (fs++vs.toArray++cs) h Q else bx P g (fs++vs.toArray++cs) h Q
 |_=>False
def BZ(P:Program)(n:Nat)(o:Oper)(ρ:Ba)(h:AY)(K:Ba→AY→Prop)(X:List PanicEntry→AY→Prop):Prop:=
 match o.op with
 | .call {callee:=.value f,args, ..}=>Ay (BE ρ f) fun fv=>Ay (GA ρ args.toList) fun vs=>TB P fv vs h (@el n o.dst ρ K X ())
 | .panic x=>Ay (BE ρ x) fun v=>match v with| .iface t u=>X [{v:=.iface t u,recovered:=false}] h|_=>False
 |op=>HL P op o.type ρ h fun v h'=>BJ n o.dst v ρ fun ρ'=>K ρ' h'
def Bl(cur:Option (Nat×Bool)):List Oper→List Oper
 | []=>[]
 |o::l=>if o.guard=cur then []else o::Bl cur l
def CJ(cur:Option (Nat×Bool)):List Oper→List Oper
 | []=>[]
 |o::l=>if o.guard=cur then o::l else CJ cur l
def Cj(all:List Oper)(j:Nat):Option Nat:=match all[j]? with|some o=>o.dst|none=>none
def Ch:Op→Bool
 | .move _| .pick .. | .extract .. =>true
 | .binOp op .. =>match op with| .quo| .rem| .shl| .shr=>false|_=>true
 | .unOp .. =>true
 | .call {callee:=.builtin .len, ..}=>true
 |_=>false
def EC:List Oper→Bool
 | []=>true
 |o::l=>Ch o.op&&EC l
def Cs(want:Bool)(s:Nat)(op:Op):Option Operand:=
 match want,op with
 |false,.pick (.tmp t) (.const (.bool true)) y=>if t=s then some y else none
 |true,.pick (.tmp t) y (.const (.bool false))=>if t=s then some y else none
 |_,_=>none
def Cn(all:List Oper)(s j:Nat)(want:Bool):List Nat→List Oper→Bool
 |_,[]=>true
 | sk,o::l=>match o.dst,o.guard with
  | some d,some (j',w')=>if d=s then false else if j'=j∧w'=want then Cn all s j want (d::sk) l
   else match Cj all j' with
    |some s'=>if s'∈sk then Cn all s j want (d::sk) l else false
    |none=>false
  |_,_=>false
def DR:List Oper→Ba→Ba
 | [],ρ=>ρ
 |o::l,ρ=>match o.dst with
  |some d=>DR l ((d,none)::ρ)
  |none=>DR l ρ
def De(want b c:Bool):Bool:=if want then b&&c else b||c
def C9(n:Nat)(dst:Option Nat)(want b:Bool)(y:Value)(ρ:Ba)(K:Ba→Prop):Prop:=match y with| .bool c=>BJ n dst (.bool (De want b c)) ρ K|_=>False
def B7(P:Program)(n:Nat)(all:List Oper):Nat→Option (Nat×Bool)→List Oper→Ba→AY→(Ba→AY→Prop)→(List PanicEntry→AY→Prop)→Prop
 |0,_,_,_,_,_,_=>False
 |_+1,_,[],ρ,h,K,_=>K ρ h
 | m +1,cur,o::rest,ρ,h,K,X=>
  if o.guard=cur then BZ P n o ρ h (fun ρ' h'=>B7 P n all m cur rest ρ' h' K X) X
  else match o.guard with
   |none=>False
   | some (j,want)=>Ay (Cj all j) fun s=>Ay (get ρ s) fun v=>match v with
    | .bool b=>Bf (Cn all s j want [] (Bl cur (o::rest))=true)
     (match EC (Bl cur (o::rest)),CJ cur (o::rest)with
     |true,p::after=>match Cs want s p.op with
      |some y=>B7 P n all m (some (j,want)) (Bl cur (o::rest)) ρ h (fun ρ' h'=>Ay (BE ρ' y) fun c=>C9 n p.dst want b c (DR (Bl cur (o::rest)) ρ) fun ρ''=>B7 P n all m cur after ρ'' h' K X) X
      |none=>False
     |_,after=>Jx (b==want) (B7 P n all m (some (j,want)) (Bl cur (o::rest)) ((s,some (.bool want))::ρ) h (fun ρ' h'=>B7 P n all m cur after ρ' h' K X) X) (B7 P n all m cur after (DR (Bl cur (o::rest)) ((s,some (.bool (!want)))::ρ)) h K X))
    |_=>False
inductive It where
 |code (c:Code)
 |blk (id:Nat)
 |lp (c:Code)
 |sc (c:Code)
structure Cx where
 P:Program
 f:FuncId
 fn:Func
 n:Nat
 live:List Nat
 R:Ending→AY→Prop
def It.item:It→Item
 | .code c=>.code c
 | .blk id=>.inBlock id
 | .lp c=>.inLoop c
 | .sc c=>.inScope c
def HW:Code→Nat
 | .seq a b=>HW a+HW b+1
 | .cond _ a b=>HW a+HW b+1
 | .block _ c=>HW c+2
 | .scope c=>HW c+2
 |_=>1
def Ma:It→Nat
 | .code c=>HW c
 |_=>1
def Jo:List It→Nat
 | []=>0
 |x::k=>Ma x+Jo k
def Cu(id:Nat):List It→Option (List It)
 | []=>none
 | .blk id'::k=>if id'=id then some k else Cu id k
 |_::k=>Cu id k
theorem EM(id:Nat): ∀k k',Cu id k=some k'→Jo k'≤Jo k
 | [],_,h=>by simp[Cu]at h
 | .blk i::k,k',h=>by
  unfold Cu at h
  split at h
  ·cases h;simp[Jo]
  ·have:=EM id k k' h;simp only[Jo];omega
 | .code c::k,k',h=>by have:=EM id k k' (by simpa[Cu]using h);simp only[Jo];omega
 | .lp c::k,k',h=>by have:=EM id k k' (by simpa[Cu]using h);simp only[Jo];omega
 | .sc c::k,k',h=>by have:=EM id k k' (by simpa[Cu]using h);simp only[Jo];omega
class DefD where
 ds:List Deferred
 kd:CallKind
def bZ[dd:DefD](P:Program)(fr:Frame)(w:World):Ending→Prop
 | .returned v=>fr.mode=.returning∧fr.defers=DefD.ds∧fr.kind=DefD.kd∧ ∃fn,P.funcs[fr.fn]? =some fn∧(results fn fr.tmps).run P w=.ok v w
 | .panicked chain=>fr.mode=.panicking chain∧fr.defers=DefD.ds∧ ∃fn,P.funcs[fr.fn]? =some fn
 | .outgrown=>True
def DQ[dd:DefD](P:Program)(b:Frame)(todo:List Item)(a:Act)(w:World)(R:Ending→World→Prop):Prop:=
 ∀cs,∃e w' fr,R e w'∧Comes P (lone (b.at a todo) cs w) (lone fr cs w') e∧fr.fn=b.fn∧bZ P fr w' e
def CV[dd:DefD](n:Nat)(ρ:Ba)(a:Act):Prop:=a.defers=DefD.ds∧a.tmps.size=n∧ ∀t v,get ρ t=some v→a.tmps[t]? =some v
def Gg[dd:DefD]{c:Cx}{k:List It}(ρ:Ba)(h:AY)(_t:Tg (c,k)):Prop:=
 c.P.funcs[c.f]? =some c.fn→ ∀(b:Frame) (a:Act) (w:World),b.fn=c.f→b.kind=DefD.kd→CV c.n ρ a→w.heap=h→
  DQ c.P b (k.map It.item) a w fun e w'=>c.R e w'.heap∧BV w w'
def Bh[dd:DefD]{c:Cx}{body:Code}{k:List It}(ρ:Ba)(h:AY)(_t:Tg (c,body,k)):Prop:=
 c.P.funcs[c.f]? =some c.fn→ ∀(b:Frame) (a:Act) (w:World),b.fn=c.f→b.kind=DefD.kd→CV c.n ρ a→w.heap=h→
  DQ c.P b (.code body:: .inLoop body::k.map It.item) a w fun e w'=>c.R e w'.heap∧BV w w'
def O4(o:Option Value):Option Addr:=match o with|some p=>DW p|none=>none
def qU(P:Program)(h:AY)(ty:TypeId)(o:Option Addr):Option Value:=match o with|some a=>JW P h ty a|none=>none
def P5(P:Program)(ρ:Ba)(h:AY):ResultVar→Option Value
 | .tmp t=>get ρ t
 | .cell s ty=>qU P h ty (O4 (get ρ s))
def JB(P:Program)(ρ:Ba)(h:AY):List ResultVar→Option (List Value)
 | []=>some []
 |r::l=>Dy (P5 P ρ h r) (JB P ρ h l)
def one:List Value→Value
 | [v]=>v
 |vs=>.tuple vs.toArray
def Tr(c:Cx)(ρ:Ba)(h:AY):Prop:=Ay (JB c.P ρ h c.fn.results.toList) fun vs=>c.R (.returned (one vs)) h
def C8[dd:DefD](c:Cx)(k:List It)(ρ:Ba)(h:AY):Prop:=
 match _hk:k with
 | []=>Tr c ρ h
 | .blk _::k=>C8 c k ρ h
 | .sc _::k=>C8 c k ρ h
 | .lp body::k=> @Bh dd c body k (canon c.live ρ) h ()
 | .code .skip::k=>C8 c k ρ h
 | .code (.label _)::k=>C8 c k ρ h
 | .code .ret::_=>Tr c ρ h
 | .code (.seq x y)::k=>C8 c (.code x:: .code y::k) ρ h
 | .code (.cond x t e)::k=>Ay (BE ρ x) fun v=>QG v (C8 c (.code t::k) ρ h) (C8 c (.code e::k) ρ h)
 | .code (.block id b)::k=>C8 c (.code b:: .blk id::k) ρ h
 | .code (.scope b)::k=>C8 c (.code b:: .sc b::k) ρ h
 | .code (.loop body)::k=> @Bh dd c body k (canon c.live ρ) h ()
 | .code (.exit id)::k=>match _he:Cu id k with
  |some k'=>C8 c k' ρ h
  |none=>False
 | .code (.region _ ops false)::k=>B7 c.P c.n ops.toList 400 none ops.toList (canon c.live ρ) h (fun ρ' h'=>C8 c k ρ' h') fun ch h'=>c.R (.panicked ch) h'
 | .code (.region id ops true)::k=> @Gg dd c (.code (.region id ops true)::k) (canon c.live ρ) h ()
 | .code _::_=>False
termination_by Jo k
decreasing_by
 all_goals simp only[Jo,Ma,HW]<;>(try omega)
 have:=EM _ _ _ ‹_›
 omega
def fP[dd:DefD](c:Cx)(k:Option (List It))(ρ:Ba)(h:AY):Prop:=match k with|some k=>C8 c k ρ h|none=>False
end Go.Vm
