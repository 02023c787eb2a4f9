/-
A symbolic evaluator for the model's code over heaps (arrays of blocks). This text holds its definition alone; that it is sound against the model stands in the next text.
Conditions: none. Generic: it speaks of no program.
-/
import Derived.WalkKit
import Derived.Deep.Quiet
import Derived.Deep.Draws
set_option linter.unusedSimpArgs false
set_option linter.unusedVariables false
namespace Go.Vm
theorem An{a b:Prop}(x:a)(y:b):a∧b:=⟨x,y⟩
abbrev AL:=Array Obj
abbrev Ak:=List (Nat×Option Value)
def get:Ak→Nat→Option Value
 | [],_=>none
 |(s,v)::ρ,t=>if s=t then v else get ρ t
def P3(s:Nat)(o:Option Value)(ρ:Ak):Ak:=match o with|some v=>(s,some v)::ρ|none=>ρ
def canon:List Nat→Ak→Ak
 | [],_=>[]
 |s::l,ρ=>P3 s (get ρ s) (canon l ρ)
def Aa(ρ:Ak):Operand→Option Value
 | .tmp t=>get ρ t
 | .const v=>some v
 | .global g=>some (.pointer (some ⟨g,0,none⟩))
 | .func f=>some (.func (.func f) #[] #[])
def Dd(o:Option Value)(l:Option (List Value)):Option (List Value):=match o,l with|some v,some vs=>some (v::vs)|_,_=>none
def GD(ρ:Ak):List Operand→Option (List Value)
 | []=>some []
 |x::l=>Dd (Aa ρ x) (GD ρ l)
def NX(i:Nat)(o:Option Value)(l:Option (List (Nat×Value))):Option (List (Nat×Value)):=match o,l with|some v,some vs=>some ((i,v)::vs)|_,_=>none
def AE(ρ:Ak):List (Nat×Operand)→Option (List (Nat×Value))
 | []=>some []
 |(i,x)::l=>NX i (Aa ρ x) (AE ρ l)
def Tg{α:Type}(_:α):Type:=Unit
def AZ{α:Type}(o:Option α)(K:α→Prop)(_t:Tg K:=()):Prop:=match o with|some v=>K v|none=>False
theorem Yy{α:Type}(v:α)(K:α→Prop):AZ (some v) K=K v:=rfl
def Ay(c:Prop)(K:Prop):Prop:=c∧K
@[congr] theorem need_congr {c c' K:Prop} (h:c=c'):Ay c K=Ay c' K:=by rw[h]
theorem DG(K:Prop):Ay True K=K:=by simp[Ay]
def KJ(b:Bool)(A B:Prop):Prop:=(b=true→A)∧(b=false→B)
@[congr] theorem ifB_congr {b b':Bool} {A B:Prop} (h:b=b'):KJ b A B=KJ b' A B:=by rw[h]
theorem QQ(A B:Prop):KJ true A B=A:=by simp[KJ]
theorem Nf(A B:Prop):KJ false A B=B:=by simp[KJ]
def Pc(v:Value)(A B:Prop):Prop:=match v with| .bool b=>KJ b A B|_=>False
theorem aJ(b:Bool)(A B:Prop):Pc (.bool b) A B=KJ b A B:=rfl
@[congr] theorem ifV_congr {v v':Value} {A B:Prop} (h:v=v'):Pc v A B=Pc v' A B:=by rw[h]
def DL(ρ:Ak)(K:Ak→Prop)(_t:Tg K:=()):Prop:=K ρ
def J4(P:Program)(t:TypeId):Option (Bool×Nat):=
 match P.info? t,P.underlying t with
 |some i,some (.struct _)=>some (true,i.size)
 |some i,some (.array _ _)=>some (true,i.size)
 |some i,some _=>some (false,i.size)
 |_,_=>none
def iG(P:Program)(t:TypeId)(i:Nat):Option (Nat×Bool×Nat):=
 match P.underlying t with
 |some (.struct fs)=>match fs[i]? with
  |some f=>(J4 P f.type).map fun s=>(f.offset,s)
  |none=>none
 |_=>none
def JA(P:Program)(t:TypeId):Option Value:=(P.info? t).bind (·.zero)
def MW(P:Program)(t:TypeId):Option (TypeId×Nat×Nat):=
 match P.underlying t with
 |some (.slice e)=>(P.info? e).map fun i=>(e,i.size,i.bytes)
 |_=>none
def BR(P:Program)(f:FuncId):Bool:=match P.funcs[f]? with|some fn=>fn.name != "runtime.NumGoroutine" &&fn.body.isSome|none=>false
def HW(h:AL)(a:Addr):Option Value:=
 match h[a.block]? with
 |some (.cells c _ _)=>if a.spot.isSome then none else c[a.off]?
 |_=>none
def FY(h:AL)(a:Addr)(n:Nat):Option (Array Value):=
 match h[a.block]? with
 |some (.cells c _ _)=>if a.spot=none∧a.off+n≤c.size then some (c.extract a.off (a.off+n))else none
 |_=>none
def Gp(o:Option (Array Value)):Option Value:=match o with|some c=>some (.agg c)|none=>none
def Jm(P:Program)(h:AL)(t:TypeId)(a:Addr):Option Value:=
 match J4 P t with
 |some (true,n)=>Gp (FY h a n)
 |some (false,_)=>HW h a
 |none=>none
def By(c:Array Value)(o:Nat):List Value→Array Value
 | []=>c
 |v::l=>By (c.setIfInBounds o v) (o+1) l
def DH:List Value→Bool
 | []=>true
 |v::l=>v.oneCell'&&DH l
def GX(h:AL)(a:Addr)(vs:List Value):Option AL:=
 match h[a.block]? with
 | some (.cells c e fr)=>if a.spot=none∧a.off+vs.length≤c.size∧(fr.2≤a.off∨a.off+vs.length≤fr.1)∧DH vs=true then
   some (h.setIfInBounds a.block (.cells (By c a.off vs) e fr))else none
 |_=>none
def FV(P:Program)(t:TypeId)(cs:Array Value)(off:Nat):Option Value:=
 match J4 P t with
 |some (true,n)=>some (.agg (cs.extract off (off+n)))
 |some (false,_)=>cs[off]?
 |none=>none
def JL(a b:Option Bool):Option Bool:=match a,b with|some x,some y=>some (x&&y)|_,_=>none
def eJ(eq:TypeId→Value→Value→Option Bool)(t:TypeId)(a b:Option Value):Option Bool:=match a,b with|some x,some y=>eq t x y|_,_=>none
def WE(P:Program)(eq:TypeId→Value→Value→Option Bool)(xs ys:Array Value):List Field→Option Bool
 | []=>some true
 |f::l=>if f.name= "_" then WE P eq xs ys l else JL (eJ eq f.type (FV P f.type xs f.offset) (FV P f.type ys f.offset)) (WE P eq xs ys l)
def pG(P:Program)(eq:TypeId→Value→Value→Option Bool)(te:TypeId)(n:Nat)(xs ys:Array Value):Nat→Nat→Option Bool
 |0,_=>some true
 |k+1,i=>JL (eJ eq te (FV P te xs (i*n)) (FV P te ys (i*n))) (pG P eq te n xs ys k (i+1))
def lu(P:Program)(eq:TypeId→Value→Value→Option Bool)(te:TypeId)(len:Nat)(xs ys:Array Value):Option TypeInfo→Option Bool
 |some j=>pG P eq te j.size xs ys len 0
 |none=>none
def JC(P:Program):Nat→TypeId→Value→Value→Option Bool
 |0,_,_,_=>none
 |d+1,t,x,y=>
  match P.underlying t,x,y with
  |some .bool,.bool a,.bool b=>some (a==b)
  |some (.int _),.int k a,.int k' b=>if k=k' then some (a==b)else none
  |some .string,.string a,.string b=>some (a.toList==b.toList)
  |some (.pointer _),.pointer none,.pointer b=>some b.isNone
  |some (.pointer _),.pointer (some _),.pointer none=>some false
  |some (.pointer te),.pointer (some a),.pointer (some b)=>if a=b∧(P.info? te).isSome=true then some true else none
  |some (.slice _),.slice none _ _,.slice b _ _=>some b.isNone
  |some (.slice _),.slice (some _) _ _,.slice none _ _=>some false
  |some (.map _ _),.map none,.map b=>some b.isNone
  |some (.map _ _),.map (some _),.map none=>some false
  |some (.struct fs),.agg xs,.agg ys=>if P.stoodInHeld t then none else WE P (JC P d) xs ys fs.toList
  |some (.array len te),.agg xs,.agg ys=>lu P (JC P d) te len xs ys (P.info? te)
  |_,_,_=>none
def Dn(P:Program)(t:TypeId)(x y:Value):Bool:=match x,y with| .agg _,.agg _=> !P.eqGuardType P.depth t| .nilIface,.nilIface=>false|_,_=>true
def Bg(P:Program)(op:BinOp)(t:TypeId)(x y:Value)(K:Value→Prop)(_t:Tg K:=()):Prop:=
 match x,y with
 | .int k a,.int k' b=>
  match op with
  | .add=>Ay (k=k') (K (.int k (k.wrap (a+b))))
  | .sub=>Ay (k=k') (K (.int k (k.wrap (a - b))))
  | .mul=>Ay (k=k') (K (.int k (k.wrap (a*b))))
  | .quo=>Ay (k=k'∧b≠0) (K (.int k (k.wrap (a.tdiv b))))
  | .rem=>Ay (k=k'∧b≠0) (K (.int k (a.tmod b)))
  | .eql=>Ay (k=k') (K (.bool (a==b)))
  | .neq=>Ay (k=k') (K (.bool (a !=b)))
  | .lss=>Ay (k=k') (K (.bool (decide (a<b))))
  | .leq=>Ay (k=k') (K (.bool (decide (a≤b))))
  | .gtr=>Ay (k=k') (K (.bool (decide (b<a))))
  | .geq=>Ay (k=k') (K (.bool (decide (b≤a))))
  | .and=>Ay (k=k') (K (.int k (k.wrap (BitVec.ofInt k.bits a &&& BitVec.ofInt k.bits b).toNat)))
  | .or=>Ay (k=k') (K (.int k (k.wrap (BitVec.ofInt k.bits a ||| BitVec.ofInt k.bits b).toNat)))
  | .xor=>Ay (k=k') (K (.int k (k.wrap (BitVec.ofInt k.bits a ^^^ BitVec.ofInt k.bits b).toNat)))
  | .andNot=>Ay (k=k') (K (.int k (k.wrap (BitVec.ofInt k.bits a &&& ~~~ (BitVec.ofInt k.bits b)).toNat)))
  | .shl=>Ay (0≤b) (K (.int k (k.wrap (a*2 ^ (min b.toNat k.bits)))))
  | .shr=>Ay (0≤b) (K (.int k (a.fdiv (2 ^ (min b.toNat k.bits)))))
 | .string a,.string b=>
  match op with
  | .add=>Ay (a.size+b.size≤9223372036854775807) (K (.string (a++b)))
  | .eql=>K (.bool (a.toList==b.toList))
  | .neq=>K (.bool (!(a.toList==b.toList)))
  | .lss=>K (.bool (Op.bytesLess a.toList b.toList))
  | .leq=>K (.bool (Op.bytesLess a.toList b.toList||a.toList==b.toList))
  | .gtr=>K (.bool (!(Op.bytesLess a.toList b.toList||a.toList==b.toList)))
  | .geq=>K (.bool (!(Op.bytesLess a.toList b.toList)))
  |_=>False
 |x,y=>
  match op with
  | .eql=>Ay (Dn P t x y=true) (AZ (JC P 10000 t x y) fun b=>K (.bool b))
  | .neq=>Ay (Dn P t x y=true) (AZ (JC P 10000 t x y) fun b=>K (.bool (!b)))
  |_=>False
def pM(op:UnOp)(x:Value):Option Value:=
 match op,x with
 | .neg,.int k n=>some (.int k (k.wrap (0 - n)))
 | .not,.bool b=>some (.bool (!b))
 |_,_=>none
def Co:Value→Option Addr
 | .pointer (some a)=>some a
 |_=>none
def Zv(P:Program)(t:TypeId)(i:Nat)(x:Value):Option Value:=
 match x,iG P t i with
 | .agg cs,some (off,true,n)=>some (.agg (cs.extract off (off+n)))
 | .agg cs,some (off,false,_)=>cs[off]?
 |_,_=>none
def NR(P:Program)(t:TypeId):Bool:=match P.underlying t with|some (.struct fs)=>fs.toList.all fun f=>(P.info? f.type).isSome|_=>false
def J8(P:Program)(t:TypeId):Array Value→List (Nat×Value)→Option (Array Value)
 |c,[]=>some c
 |c,(i,v)::l=>match iG P t i with
  |some (off,_,n)=>if v.cells.size=n∧off+n≤c.size then J8 P t (By c off v.cells.toList) l else none
  |none=>none
def Yw(P:Program)(t:TypeId)(ok:Bool)(z:Option Value)(vs:List (Nat×Value)):Option Value:=match ok,z with|true,some z=>Gp (J8 P t z.cells vs)|_,_=>Gp (P.built t vs)
def Yx(P:Program)(t:TypeId)(vs:List (Nat×Value)):Option Value:=Yw P t (NR P t) (JA P t) vs
def BP(P:Program)(t:TypeId)(n:Nat)(vs:List (Nat×Value)):Option (TypeId×Array Value):=
 match P.underlying t with
 | some (.slice e)=>match P.info? e with
  | some ie=>match ie.zero with
   |some z=>if n*ie.size>2 ^ 24 then none else
    match Instr.fill (fun i=>some (i*ie.size,ie.size)) ((Array.range (n*ie.size)).map ((if n*ie.size=0 then #[]else z.cells)[· % (if n*ie.size=0 then #[]else z.cells).size]!)) vs with
    |some c=>some (e,c)
    |none=>none
   |none=>none
  |none=>none
 |_=>none
def Ai(w w':World):Prop:=w'.os=w.os∧w'.tape=w.tape∧w'.output=w.output
def CJ(P:Program)(s:Sem Value)(h:AL)(K:Value→AL→Prop)(_t:Tg K:=()):Prop:=
 ∀w:World,w.heap=h→ ∃v w',s.run P w=.ok v w'∧Ai w w'∧K v w'.heap
def CallsH(P:Program)(f:FuncId)(args:Array Value)(h:AL)(R:Ending→AL→Prop):Prop:=
 ∀w:World,w.heap=h→Calls P f args w fun e w'=>R e w'.heap∧Ai w w'
def M3(P:Program)(t:TypeId)(x i:Value)(K:Value→Prop):Prop:=
 match x,i with
 | .string s,.int _ n=>Ay (P.underlying t=some .string∧0≤n) (AZ s.data[n.toNat]? fun b=>K (.int .u8 b.toNat))
 | .agg cs,.int _ n=>match P.underlying t with
  |some (.array len e)=>Ay (0≤n∧n<len) (AZ (J4 P e) fun s=>AZ (FV P e cs (n.toNat*s.2)) K)
  |_=>False
 |_,_=>False
def Ku(P:Program)(t:TypeId)(x i:Value)(K:Value→Prop):Prop:=
 match x,i with
 | .slice (some a) len _,.int _ n=>AZ (MW P t) fun e=>Ay (0≤n∧n<len) (K (.pointer (some (a.add (n.toNat*e.2.1)))))
 | .pointer (some a),.int _ n=>match P.underlying t with
  |some (.array len e)=>AZ (J4 P e) fun s=>Ay (0≤n∧n<len) (K (.pointer (some (a.add (n.toNat*s.2)))))
  |_=>False
 |_,_=>False
def B6:Option Value→Nat→Option Int
 |none,d=>some d
 |some (.int _ n),_=>some n
 |_,_=>none
def co(P:Program)(t:TypeId)(x:Value)(lo hi:Option Value)(K:Value→Prop):Prop:=
 match x with
 | .string s=>AZ (B6 lo 0) fun l=>AZ (B6 hi s.size) fun r=>Ay (P.underlying t=some .string∧0≤l∧l≤r∧r≤s.size) (K (.string (s.extract l.toNat r.toNat)))
 | .slice a len cap=>AZ (MW P t) fun e=>AZ (B6 lo 0) fun l=>AZ (B6 hi len) fun r=>
   Ay (0≤l∧l≤r∧r≤cap) (K (.slice (if cap=l.toNat then a else a.map (·.add (l.toNat*e.2.1))) (r.toNat - l.toNat) (cap - l.toNat)))
 |_=>False
def NE(P:Program)(t:TypeId)(x:Value)(lo hi:Option Value)(mx:Value)(K:Value→Prop):Prop:=
 match x with
 | .slice a len cap=>AZ (MW P t) fun e=>AZ (B6 lo 0) fun l=>AZ (B6 hi len) fun r=>AZ (B6 (some mx) cap) fun m=>
   Ay (hi≠none∧0≤l∧l≤r∧r≤m∧m≤cap) (K (.slice (if m=l then a else a.map (·.add (l.toNat*e.2.1))) (r.toNat - l.toNat) (m.toNat - l.toNat)))
 |_=>False
def ET(ρ:Ak):Option Operand→Option (Option Value)
 |none=>some none
 |some x=>(Aa ρ x).map some
def G4(P:Program)(t:TypeId)(x:Value)(h:AL)(K:Value→Prop):Prop:=
 match x with
 | .string s=>Ay (P.underlying t=some .string) (K (.int .i64 s.size))
 | .slice _ n _=>AZ (MW P t) fun _=>K (.int .i64 n)
 | .map none=>match P.underlying t with|some (.map _ _)=>K (.int .i64 0)|_=>False
 | .map (some r)=>match P.underlying t,h[r]? with|some (.map _ _),some (.map es _)=>K (.int .i64 es.size)|_,_=>False
 |_=>False
def P1(P:Program)(s d:TypeId)(x:Value)(h:AL)(K:Value→AL→Prop):Prop:=
 match P.underlying s,P.underlying d with
 |some _,some (.int k)=>match x with
  | .int _ n=>K (.int k (k.wrap n)) h
  |_=>False
 |some (.int _),some .string=>match x with
  | .int _ n=>K (.string (Utf8.encode n)) h
  |_=>False
 |some .string,some .string=>match x with
  | .string b=>K (.string b) h
  |_=>False
 |_,_=>CJ P (convert s d x) h K
def HY(P:Program)(o:Op)(ty:TypeId)(ρ:Ak)(h:AL)(K:Value→AL→Prop):Prop:=
 match o with
 | .move x=>AZ (Aa ρ x) fun v=>K v h
 | .assign x=>AZ (Aa ρ x) fun v=>K v h
 | .pick c a b=>AZ (Aa ρ c) fun v=>Pc v (AZ (Aa ρ a) fun u=>K u h) (AZ (Aa ρ b) fun u=>K u h)
 | .alloc e=>AZ (JA P e) fun z=>K (.pointer (some ⟨h.size,0,none⟩)) (h.push (.cells z.cells e))
 | .box e x=>AZ (Aa ρ x) fun v=>K (.pointer (some ⟨h.size,0,none⟩)) (h.push (.cells v.cells e))
 | .build t ps=>AZ (AE ρ ps.toList) fun vs=>AZ (Yx P t vs) fun v=>K v h
 | .buildSlice t n ps=>AZ (AE ρ ps.toList) fun vs=>AZ (BP P t n vs) fun r=>K (.slice (some ⟨h.size,0,none⟩) n n) (h.push (.cells r.2 r.1))
 | .load t x=>AZ (Aa ρ x) fun p=>AZ (Co p) fun a=>AZ (Jm P h t a) fun v=>K v h
 | .store t x y=>AZ (Aa ρ x) fun p=>AZ (Co p) fun a=>AZ (Aa ρ y) fun v=>AZ (J4 P t) fun s=>Ay (v.cells.size=s.2) (AZ (GX h a v.cells.toList) fun h'=>K undef h')
 | .nilCheck x=>AZ (Aa ρ x) fun p=>AZ (Co p) fun _=>K p h
 | .binOp op t x y _=>AZ (Aa ρ x) fun a=>AZ (Aa ρ y) fun b=>Bg P op t a b fun v=>K v h
 | .unOp op _ x=>AZ (Aa ρ x) fun v=>AZ (pM op v) fun u=>K u h
 | .convert s d x=>AZ (Aa ρ x) fun v=>P1 P s d v h K
 | .makeInterface t x=>AZ (Aa ρ x) fun v=>Ay (P.concrete t=true) (K (.iface t v) h)
 | .makeFunc fn fs cs=>AZ (GD ρ fs.toList) fun us=>AZ (GD ρ cs.toList) fun vs=>K (.func fn us.toArray vs.toArray) h
 | .makeMap _ none=>K (.map (some h.size)) (h.push (.map #[] 0))
 | .makeSlice t l c=>AZ (Aa ρ l) fun lv=>AZ (Aa ρ c) fun cv=>CJ P (Instr.makeSlice t lv cv) h K
 | .slice t x lo hi none=>AZ (Aa ρ x) fun v=>AZ (ET ρ lo) fun l=>AZ (ET ρ hi) fun r=>co P t v l r fun u=>K u h
 | .slice t x lo hi (some m)=>AZ (Aa ρ x) fun v=>AZ (ET ρ lo) fun l=>AZ (ET ρ hi) fun r=>AZ (Aa ρ m) fun mv=>NE P t v l r mv fun u=>K u h
 | .fieldAddr t x i=>AZ (Aa ρ x) fun p=>AZ (Co p) fun a=>AZ (iG P t i) fun f=>Ay (f.2.2≠0) (K (.pointer (some (a.add f.1))) h)
 | .field t x i=>AZ (Aa ρ x) fun v=>AZ (Zv P t i v) fun u=>K u h
 | .indexAddr t x i=>AZ (Aa ρ x) fun v=>AZ (Aa ρ i) fun n=>Ku P t v n fun u=>K u h
 | .index t x i=>AZ (Aa ρ x) fun v=>AZ (Aa ρ i) fun n=>M3 P t v n fun u=>K u h
 | .lookup t x i ok=>AZ (Aa ρ x) fun m=>AZ (Aa ρ i) fun k=>CJ P (Instr.lookup t m k ok) h K
 | .mapUpdate t x i y=>AZ (Aa ρ x) fun m=>AZ (Aa ρ i) fun k=>AZ (Aa ρ y) fun v=>CJ P (do Instr.mapUpdate t m k v;Pure.pure undef) h K
 | .insert t x i y=>AZ (Aa ρ x) fun m=>AZ (Aa ρ i) fun k=>AZ (Aa ρ y) fun v=>CJ P (do Instr.mapUpdate t m k v;Pure.pure undef) h K
 | .range t x=>AZ (Aa ρ x) fun v=>CJ P (Instr.range t v) h K
 | .next x s=>AZ (Aa ρ x) fun v=>CJ P (Instr.next v s ty) h K
 | .typeAssert x t a ok=>AZ (Aa ρ x) fun v=>CJ P (Instr.typeAssert v t a ok) h K
 | .extract x i=>AZ (Aa ρ x) fun v=>match v with| .tuple vs=>AZ vs[i]? fun u=>K u h|_=>False
 | .call {callee:=.builtin b,args,argTypes}=>AZ (GD ρ args.toList) fun vs=>
  match b,vs,argTypes.toList with
  | .len,[v],[t]=>G4 P t v h fun u=>K u h
  | .append,_,_=>CJ P (Builtin.append_ argTypes ty vs.toArray) h K
  | .cap,_,_=>CJ P (Builtin.cap_ argTypes ty vs.toArray) h K
  | .copy,_,_=>CJ P (Builtin.copy_ argTypes ty vs.toArray) h K
  | .delete,_,_=>CJ P (Builtin.delete_ argTypes ty vs.toArray) h K
  | .clear,_,_=>CJ P (Builtin.clear_ argTypes ty vs.toArray) h K
  | .unsafeSliceData,_,_=>CJ P (Builtin.unsafeSliceData_ argTypes ty vs.toArray) h K
  | .unsafeString,_,_=>CJ P (Builtin.unsafeString_ argTypes ty vs.toArray) h K
  | .max,[.int k x,.int _ y],_=>K (.int k (if x<y then y else x)) h
  | .min,[.int k x,.int _ y],_=>K (.int k (if y<x then y else x)) h
  |_,_,_=>False
 |_=>False
def Ac(n:Nat)(dst:Option Nat)(v:Value)(ρ:Ak)(K:Ak→Prop):Prop:=match dst with|some d=>Ay (d<n) (K ((d,some v)::ρ))|none=>K ρ
def eY{n:Nat}{dst:Option Nat}(ρ:Ak){K:Ak→AL→Prop}{X:List PanicEntry→AL→Prop}(_t:Tg (n,dst,K,X))(e:Ending)(h:AL):Prop:=
 match e with
 | .returned v=>Ac n dst v ρ fun ρ'=>K ρ' h
 | .panicked ch=>X ch h
 | .outgrown=>False
def YR(P:Program)(g:FuncId)(args:Array Value)(h:AL)(Q:Ending→AL→Prop):Prop:=
 ∀w:World,w.heap=h→ ∃v w',(callFunc g args).run P w=.ok (.value v) w'∧Ai w w'∧Q (.returned v) w'.heap
def Tw(P:Program)(f:FuncId)(args:Array Value)(h:AL)(p:Value×AL):Prop:=P.inits.idxOf? f=none∧CallsH P f args h fun e h'=>e=.returned p.1∧h'=p.2
open Classical in
noncomputable def JU(P:Program)(f:FuncId)(args:Array Value)(h:AL):Option (Value×AL):=if H: ∃p,Tw P f args h p then some H.choose else none
def Ap(P:Program)(f:FuncId)(args:Array Value)(h:AL)(Q:Ending→AL→Prop):Prop:=match JU P f args h with|some p=>Q (.returned p.1) p.2|none=>CallsH P f args h Q
def Pq(P:Program)(f:Value)(vs:List Value)(h:AL)(Q:Ending→AL→Prop):Prop:=
 match f with
 | .func (.func g) fs cs=>if BR P g=true then Ap P g (fs++vs.toArray++cs) h Q else YR P g (fs++vs.toArray++cs) h Q
 |_=>False
def Am(P:Program)(n:Nat)(o:Oper)(ρ:Ak)(h:AL)(K:Ak→AL→Prop)(X:List PanicEntry→AL→Prop):Prop:=
 match o.op with
 | .call {callee:=.value f,args, ..}=>AZ (Aa ρ f) fun fv=>AZ (GD ρ args.toList) fun vs=>Pq P fv vs h (@eY n o.dst ρ K X ())
 | .panic x=>AZ (Aa ρ x) fun v=>match v with| .iface t u=>X [{v:=.iface t u,recovered:=false}] h|_=>False
 |op=>HY P op o.type ρ h fun v h'=>Ac n o.dst v ρ fun ρ'=>K ρ' h'
def A7(cur:Option (Nat×Bool)):List Oper→List Oper
 | []=>[]
 |o::l=>if o.guard=cur then []else o::A7 cur l
def BQ(cur:Option (Nat×Bool)):List Oper→List Oper
 | []=>[]
 |o::l=>if o.guard=cur then o::l else BQ cur l
def Bq(all:List Oper)(j:Nat):Option Nat:=match all[j]? with|some o=>o.dst|none=>none
def Bk:Op→Bool
 | .move _| .pick .. | .extract .. =>true
 | .binOp op .. =>match op with| .quo| .rem| .shl| .shr=>false|_=>true
 | .unOp .. =>true
 | .call {callee:=.builtin .len, ..}=>true
 |_=>false
def Dy:List Oper→Bool
 | []=>true
 |o::l=>Bk o.op&&Dy l
def Bv(want:Bool)(s:Nat)(op:Op):Option Operand:=
 match want,op with
 |false,.pick (.tmp t) (.const (.bool true)) y=>if t=s then some y else none
 |true,.pick (.tmp t) y (.const (.bool false))=>if t=s then some y else none
 |_,_=>none
def Br(all:List Oper)(s j:Nat)(want:Bool):List Nat→List Oper→Bool
 |_,[]=>true
 | sk,o::l=>match o.dst,o.guard with
  | some d,some (j',w')=>if d=s then false else if j'=j∧w'=want then Br all s j want (d::sk) l
   else match Bq all j' with
    |some s'=>if s'∈sk then Br all s j want (d::sk) l else false
    |none=>false
  |_,_=>false
def Ck:List Oper→Ak→Ak
 | [],ρ=>ρ
 |o::l,ρ=>match o.dst with
  |some d=>Ck l ((d,none)::ρ)
  |none=>Ck l ρ
def C2(want b c:Bool):Bool:=if want then b&&c else b||c
def CO(n:Nat)(dst:Option Nat)(want b:Bool)(y:Value)(ρ:Ak)(K:Ak→Prop):Prop:=match y with| .bool c=>Ac n dst (.bool (C2 want b c)) ρ K|_=>False
def BK(P:Program)(n:Nat)(all:List Oper):Nat→Option (Nat×Bool)→List Oper→Ak→AL→(Ak→AL→Prop)→(List PanicEntry→AL→Prop)→Prop
 |0,_,_,_,_,_,_=>False
 |_+1,_,[],ρ,h,K,_=>K ρ h
 | m +1,cur,o::rest,ρ,h,K,X=>
  if o.guard=cur then Am P n o ρ h (fun ρ' h'=>BK P n all m cur rest ρ' h' K X) X
  else match o.guard with
   |none=>False
   | some (j,want)=>AZ (Bq all j) fun s=>AZ (get ρ s) fun v=>match v with
    | .bool b=>Ay (Br all s j want [] (A7 cur (o::rest))=true)
     (match Dy (A7 cur (o::rest)),BQ cur (o::rest)with
     |true,p::after=>match Bv want s p.op with
      |some y=>BK P n all m (some (j,want)) (A7 cur (o::rest)) ρ h (fun ρ' h'=>AZ (Aa ρ' y) fun c=>CO n p.dst want b c (Ck (A7 cur (o::rest)) ρ) fun ρ''=>BK P n all m cur after ρ'' h' K X) X
      |none=>False
     |_,after=>KJ (b==want) (BK P n all m (some (j,want)) (A7 cur (o::rest)) ((s,some (.bool want))::ρ) h (fun ρ' h'=>BK P n all m cur after ρ' h' K X) X) (BK P n all m cur after (Ck (A7 cur (o::rest)) ((s,some (.bool (!want)))::ρ)) h K X))
    |_=>False
inductive It where
 |code (c:Code)
 |blk (id:Nat)
 |lp (c:Code)
 |sc (c:Code)
structure Cx where
 P:Program
 f:FuncId
 fn:Func
 n:Nat
 live:List Nat
 R:Ending→AL→Prop
def It.item:It→Item
 | .code c=>.code c
 | .blk id=>.inBlock id
 | .lp c=>.inLoop c
 | .sc c=>.inScope c
def Hl:Code→Nat
 | .seq a b=>Hl a+Hl b+1
 | .cond _ a b=>Hl a+Hl b+1
 | .block _ c=>Hl c+2
 | .scope c=>Hl c+2
 |_=>1
def Lw:It→Nat
 | .code c=>Hl c
 |_=>1
def J1:List It→Nat
 | []=>0
 |x::k=>Lw x+J1 k
def Bz(id:Nat):List It→Option (List It)
 | []=>none
 | .blk id'::k=>if id'=id then some k else Bz id k
 |_::k=>Bz id k
theorem EH(id:Nat): ∀k k',Bz id k=some k'→J1 k'≤J1 k
 | [],_,h=>by simp[Bz]at h
 | .blk i::k,k',h=>by
  unfold Bz at h
  split at h
  ·cases h;simp[J1]
  ·have:=EH id k k' h;simp only[J1];omega
 | .code c::k,k',h=>by have:=EH id k k' (by simpa[Bz]using h);simp only[J1];omega
 | .lp c::k,k',h=>by have:=EH id k k' (by simpa[Bz]using h);simp only[J1];omega
 | .sc c::k,k',h=>by have:=EH id k k' (by simpa[Bz]using h);simp only[J1];omega
class DefD where
 ds:List Deferred
 kd:CallKind
def aT[dd:DefD](P:Program)(fr:Frame)(w:World):Ending→Prop
 | .returned v=>fr.mode=.returning∧fr.defers=DefD.ds∧fr.kind=DefD.kd∧ ∃fn,P.funcs[fr.fn]? =some fn∧(results fn fr.tmps).run P w=.ok v w
 | .panicked chain=>fr.mode=.panicking chain∧fr.defers=DefD.ds∧ ∃fn,P.funcs[fr.fn]? =some fn
 | .outgrown=>True
def Ch[dd:DefD](P:Program)(b:Frame)(todo:List Item)(a:Act)(w:World)(R:Ending→World→Prop):Prop:=
 ∀cs,∃e w' fr,R e w'∧Comes P (lone (b.at a todo) cs w) (lone fr cs w') e∧fr.fn=b.fn∧aT P fr w' e
def BO[dd:DefD](n:Nat)(ρ:Ak)(a:Act):Prop:=a.defers=DefD.ds∧a.tmps.size=n∧ ∀t v,get ρ t=some v→a.tmps[t]? =some v
def GZ[dd:DefD]{c:Cx}{k:List It}(ρ:Ak)(h:AL)(_t:Tg (c,k)):Prop:=
 c.P.funcs[c.f]? =some c.fn→ ∀(b:Frame) (a:Act) (w:World),b.fn=c.f→b.kind=DefD.kd→BO c.n ρ a→w.heap=h→
  Ch c.P b (k.map It.item) a w fun e w'=>c.R e w'.heap∧Ai w w'
def Au[dd:DefD]{c:Cx}{body:Code}{k:List It}(ρ:Ak)(h:AL)(_t:Tg (c,body,k)):Prop:=
 c.P.funcs[c.f]? =some c.fn→ ∀(b:Frame) (a:Act) (w:World),b.fn=c.f→b.kind=DefD.kd→BO c.n ρ a→w.heap=h→
  Ch c.P b (.code body:: .inLoop body::k.map It.item) a w fun e w'=>c.R e w'.heap∧Ai w w'
def Ns(o:Option Value):Option Addr:=match o with|some p=>Co p|none=>none
def qh(P:Program)(h:AL)(ty:TypeId)(o:Option Addr):Option Value:=match o with|some a=>Jm P h ty a|none=>none
def O5(P:Program)(ρ:Ak)(h:AL):ResultVar→Option Value
 | .tmp t=>get ρ t
 | .cell s ty=>qh P h ty (Ns (get ρ s))
def Jo(P:Program)(ρ:Ak)(h:AL):List ResultVar→Option (List Value)
 | []=>some []
 |r::l=>Dd (O5 P ρ h r) (Jo P ρ h l)
def one:List Value→Value
 | [v]=>v
 |vs=>.tuple vs.toArray
def TJ(c:Cx)(ρ:Ak)(h:AL):Prop:=AZ (Jo c.P ρ h c.fn.results.toList) fun vs=>c.R (.returned (one vs)) h
def den[dd:DefD](c:Cx)(k:List It)(ρ:Ak)(h:AL):Prop:=
 match _hk:k with
 | []=>TJ c ρ h
 | .blk _::k=>den c k ρ h
 | .sc _::k=>den c k ρ h
 | .lp body::k=> @Au dd c body k (canon c.live ρ) h ()
 | .code .skip::k=>den c k ρ h
 | .code (.label _)::k=>den c k ρ h
 | .code .ret::_=>TJ c ρ h
 | .code (.seq x y)::k=>den c (.code x:: .code y::k) ρ h
 | .code (.cond x t e)::k=>AZ (Aa ρ x) fun v=>Pc v (den c (.code t::k) ρ h) (den c (.code e::k) ρ h)
 | .code (.block id b)::k=>den c (.code b:: .blk id::k) ρ h
 | .code (.scope b)::k=>den c (.code b:: .sc b::k) ρ h
 | .code (.loop body)::k=> @Au dd c body k (canon c.live ρ) h ()
 | .code (.exit id)::k=>match _he:Bz id k with
  |some k'=>den c k' ρ h
  |none=>False
 | .code (.region _ ops false)::k=>BK c.P c.n ops.toList 400 none ops.toList (canon c.live ρ) h (fun ρ' h'=>den c k ρ' h') fun ch h'=>c.R (.panicked ch) h'
 | .code (.region id ops true)::k=> @GZ dd c (.code (.region id ops true)::k) (canon c.live ρ) h ()
 | .code _::_=>False
termination_by J1 k
decreasing_by
 all_goals simp only[J1,Lw,Hl]<;>(try omega)
 have:=EH _ _ _ ‹_›
 omega
def fl[dd:DefD](c:Cx)(k:Option (List It))(ρ:Ak)(h:AL):Prop:=match k with|some k=>den c k ρ h|none=>False
end Go.Vm
