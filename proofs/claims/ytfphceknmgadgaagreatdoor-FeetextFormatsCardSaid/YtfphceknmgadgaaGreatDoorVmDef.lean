/-
A symbolic evaluator for the model's code over heaps (arrays of blocks). This text holds its definition alone; that it is sound against the model stands in the next text.
Conditions: none. Generic: it speaks of no program.
-/
import Derived.WalkKit
import Derived.Deep.Quiet
import Derived.Deep.Draws
set_option linter.unusedSimpArgs false
set_option linter.unusedVariables false
namespace Go.Vm
theorem An{a b:Prop}(x:a)(y:b):a∧b:=⟨x,y⟩
abbrev AX:=Array Obj
abbrev Bc:=List (Nat×Option Value)
def get:Bc→Nat→Option Value
 | [],_=>none
 |(s,v)::ρ,t=>if s=t then v else get ρ t
def TM(s:Nat)(o:Option Value)(ρ:Bc):Bc:=match o with|some v=>(s,some v)::ρ|none=>ρ
def canon:List Nat→Bc→Bc
 | [],_=>[]
 |s::l,ρ=>TM s (get ρ s) (canon l ρ)
def BM(ρ:Bc):Operand→Option Value
 | .tmp t=>get ρ t
 | .const v=>some v
 | .global g=>some (.pointer (some ⟨g,0,none⟩))
 | .func f=>some (.func (.func f) #[] #[])
def Em(o:Option Value)(l:Option (List Value)):Option (List Value):=match o,l with|some v,some vs=>some (v::vs)|_,_=>none
def G8(ρ:Bc):List Operand→Option (List Value)
 | []=>some []
 |x::l=>Em (BM ρ x) (G8 ρ l)
def Rr(i:Nat)(o:Option Value)(l:Option (List (Nat×Value))):Option (List (Nat×Value)):=match o,l with|some v,some vs=>some ((i,v)::vs)|_,_=>none
def Ae(ρ:Bc):List (Nat×Operand)→Option (List (Nat×Value))
 | []=>some []
 |(i,x)::l=>Rr i (BM ρ x) (Ae ρ l)
def Tg{α:Type}(_:α):Type:=Unit
def A9{α:Type}(o:Option α)(K:α→Prop)(_t:Tg K:=()):Prop:=match o with|some v=>K v|none=>False
theorem VW{α:Type}(v:α)(K:α→Prop):A9 (some v) K=K v:=rfl
def Br(c:Prop)(K:Prop):Prop:=c∧K
@[congr] theorem need_congr {c c' K:Prop} (h:c=c'):Br c K=Br c' K:=by rw[h]
theorem EJ(K:Prop):Br True K=K:=by simp[Br]
def Lo(b:Bool)(A B:Prop):Prop:=(b=true→A)∧(b=false→B)
@[congr] theorem ifB_congr {b b':Bool} {A B:Prop} (h:b=b'):Lo b A B=Lo b' A B:=by rw[h]
theorem O1(A B:Prop):Lo true A B=A:=by simp[Lo]
theorem Lu(A B:Prop):Lo false A B=B:=by simp[Lo]
def Sx(v:Value)(A B:Prop):Prop:=match v with| .bool b=>Lo b A B|_=>False
theorem Uj(b:Bool)(A B:Prop):Sx (.bool b) A B=Lo b A B:=rfl
@[congr] theorem ifV_congr {v v':Value} {A B:Prop} (h:v=v'):Sx v A B=Sx v' A B:=by rw[h]
def EW(ρ:Bc)(K:Bc→Prop)(_t:Tg K:=()):Prop:=K ρ
def DP(P:Program)(t:TypeId):Option (Bool×Nat):=
 match P.info? t,P.underlying t with
 |some i,some (.struct _)=>some (true,i.size)
 |some i,some (.array _ _)=>some (true,i.size)
 |some i,some _=>some (false,i.size)
 |_,_=>none
def Cr(P:Program)(t:TypeId)(i:Nat):Option (Nat×Bool×Nat):=
 match P.underlying t with
 |some (.struct fs)=>match fs[i]? with
  |some f=>(DP P f.type).map fun s=>(f.offset,s)
  |none=>none
 |_=>none
def DU(P:Program)(t:TypeId):Option Value:=(P.info? t).bind (·.zero)
def PR(P:Program)(t:TypeId):Option (TypeId×Nat×Nat):=
 match P.underlying t with
 |some (.slice e)=>(P.info? e).map fun i=>(e,i.size,i.bytes)
 |_=>none
def AD(P:Program)(f:FuncId):Bool:=match P.funcs[f]? with|some fn=>fn.name != "runtime.NumGoroutine" &&fn.body.isSome|none=>false
def Fe(h:AX)(a:Addr):Option Value:=
 match h[a.block]? with
 |some (.cells c _ _)=>if a.spot.isSome then none else c[a.off]?
 |_=>none
def Gb(h:AX)(a:Addr)(n:Nat):Option (Array Value):=
 match h[a.block]? with
 |some (.cells c _ _)=>if a.spot=none∧a.off+n≤c.size then some (c.extract a.off (a.off+n))else none
 |_=>none
def Hs(o:Option (Array Value)):Option Value:=match o with|some c=>some (.agg c)|none=>none
def K7(P:Program)(h:AX)(t:TypeId)(a:Addr):Option Value:=
 match DP P t with
 |some (true,n)=>Hs (Gb h a n)
 |some (false,_)=>Fe h a
 |none=>none
def DE(c:Array Value)(o:Nat):List Value→Array Value
 | []=>c
 |v::l=>DE (c.setIfInBounds o v) (o+1) l
def Ek:List Value→Bool
 | []=>true
 |v::l=>v.oneCell'&&Ek l
def HG(h:AX)(a:Addr)(vs:List Value):Option AX:=
 match h[a.block]? with
 | some (.cells c e fr)=>if a.spot=none∧a.off+vs.length≤c.size∧(fr.2≤a.off∨a.off+vs.length≤fr.1)∧Ek vs=true then
   some (h.setIfInBounds a.block (.cells (DE c a.off vs) e fr))else none
 |_=>none
def GW(P:Program)(t:TypeId)(cs:Array Value)(off:Nat):Option Value:=
 match DP P t with
 |some (true,n)=>some (.agg (cs.extract off (off+n)))
 |some (false,_)=>cs[off]?
 |none=>none
def Kq(a b:Option Bool):Option Bool:=match a,b with|some x,some y=>some (x&&y)|_,_=>none
def mO(eq:TypeId→Value→Value→Option Bool)(t:TypeId)(a b:Option Value):Option Bool:=match a,b with|some x,some y=>eq t x y|_,_=>none
def bb(P:Program)(eq:TypeId→Value→Value→Option Bool)(xs ys:Array Value):List Field→Option Bool
 | []=>some true
 |f::l=>if f.name= "_" then bb P eq xs ys l else Kq (mO eq f.type (GW P f.type xs f.offset) (GW P f.type ys f.offset)) (bb P eq xs ys l)
def eqA(P:Program)(eq:TypeId→Value→Value→Option Bool)(te:TypeId)(n:Nat)(xs ys:Array Value):Nat→Nat→Option Bool
 |0,_=>some true
 |k+1,i=>Kq (mO eq te (GW P te xs (i*n)) (GW P te ys (i*n))) (eqA P eq te n xs ys k (i+1))
def eqAO(P:Program)(eq:TypeId→Value→Value→Option Bool)(te:TypeId)(len:Nat)(xs ys:Array Value):Option TypeInfo→Option Bool
 |some j=>eqA P eq te j.size xs ys len 0
 |none=>none
def KO(P:Program):Nat→TypeId→Value→Value→Option Bool
 |0,_,_,_=>none
 |d+1,t,x,y=>
  match P.underlying t,x,y with
  |some .bool,.bool a,.bool b=>some (a==b)
  |some (.int _),.int k a,.int k' b=>if k=k' then some (a==b)else none
  |some .string,.string a,.string b=>some (a.toList==b.toList)
  |some (.pointer _),.pointer none,.pointer b=>some b.isNone
  |some (.pointer _),.pointer (some _),.pointer none=>some false
  |some (.pointer te),.pointer (some a),.pointer (some b)=>if a=b∧(P.info? te).isSome=true then some true else none
  |some (.slice _),.slice none _ _,.slice b _ _=>some b.isNone
  |some (.slice _),.slice (some _) _ _,.slice none _ _=>some false
  |some (.map _ _),.map none,.map b=>some b.isNone
  |some (.map _ _),.map (some _),.map none=>some false
  |some (.struct fs),.agg xs,.agg ys=>if P.stoodInHeld t then none else bb P (KO P d) xs ys fs.toList
  |some (.array len te),.agg xs,.agg ys=>eqAO P (KO P d) te len xs ys (P.info? te)
  |_,_,_=>none
def Ez(P:Program)(t:TypeId)(x y:Value):Bool:=match x,y with| .agg _,.agg _=> !P.eqGuardType P.depth t| .nilIface,.nilIface=>false|_,_=>true
def Cv(P:Program)(op:BinOp)(t:TypeId)(x y:Value)(K:Value→Prop)(_t:Tg K:=()):Prop:=
 match x,y with
 | .int k a,.int k' b=>
  match op with
  | .add=>Br (k=k') (K (.int k (k.wrap (a+b))))
  | .sub=>Br (k=k') (K (.int k (k.wrap (a - b))))
  | .mul=>Br (k=k') (K (.int k (k.wrap (a*b))))
  | .quo=>Br (k=k'∧b≠0) (K (.int k (k.wrap (a.tdiv b))))
  | .rem=>Br (k=k'∧b≠0) (K (.int k (a.tmod b)))
  | .eql=>Br (k=k') (K (.bool (a==b)))
  | .neq=>Br (k=k') (K (.bool (a !=b)))
  | .lss=>Br (k=k') (K (.bool (decide (a<b))))
  | .leq=>Br (k=k') (K (.bool (decide (a≤b))))
  | .gtr=>Br (k=k') (K (.bool (decide (b<a))))
  | .geq=>Br (k=k') (K (.bool (decide (b≤a))))
  | .and=>Br (k=k') (K (.int k (k.wrap (BitVec.ofInt k.bits a &&& BitVec.ofInt k.bits b).toNat)))
  | .or=>Br (k=k') (K (.int k (k.wrap (BitVec.ofInt k.bits a ||| BitVec.ofInt k.bits b).toNat)))
  | .xor=>Br (k=k') (K (.int k (k.wrap (BitVec.ofInt k.bits a ^^^ BitVec.ofInt k.bits b).toNat)))
  | .andNot=>Br (k=k') (K (.int k (k.wrap (BitVec.ofInt k.bits a &&& ~~~ (BitVec.ofInt k.bits b)).toNat)))
  | .shl=>Br (0≤b) (K (.int k (k.wrap (a*2 ^ (min b.toNat k.bits)))))
  | .shr=>Br (0≤b) (K (.int k (a.fdiv (2 ^ (min b.toNat k.bits)))))
 | .string a,.string b=>
  match op with
  | .add=>Br (a.size+b.size≤9223372036854775807) (K (.string (a++b)))
  | .eql=>K (.bool (a.toList==b.toList))
  | .neq=>K (.bool (!(a.toList==b.toList)))
  | .lss=>K (.bool (Op.bytesLess a.toList b.toList))
  | .leq=>K (.bool (Op.bytesLess a.toList b.toList||a.toList==b.toList))
  | .gtr=>K (.bool (!(Op.bytesLess a.toList b.toList||a.toList==b.toList)))
  | .geq=>K (.bool (!(Op.bytesLess a.toList b.toList)))
  |_=>False
 |x,y=>
  match op with
  | .eql=>Br (Ez P t x y=true) (A9 (KO P 10000 t x y) fun b=>K (.bool b))
  | .neq=>Br (Ez P t x y=true) (A9 (KO P 10000 t x y) fun b=>K (.bool (!b)))
  |_=>False
def unV(op:UnOp)(x:Value):Option Value:=
 match op,x with
 | .neg,.int k n=>some (.int k (k.wrap (0 - n)))
 | .not,.bool b=>some (.bool (!b))
 |_,_=>none
def D7:Value→Option Addr
 | .pointer (some a)=>some a
 |_=>none
def gO(P:Program)(t:TypeId)(i:Nat)(x:Value):Option Value:=
 match x,Cr P t i with
 | .agg cs,some (off,true,n)=>some (.agg (cs.extract off (off+n)))
 | .agg cs,some (off,false,_)=>cs[off]?
 |_,_=>none
def Cj(P:Program)(t:TypeId):Bool:=match P.underlying t with|some (.struct fs)=>fs.toList.all fun f=>(P.info? f.type).isSome|_=>false
def Lc(P:Program)(t:TypeId):Array Value→List (Nat×Value)→Option (Array Value)
 |c,[]=>some c
 |c,(i,v)::l=>match Cr P t i with
  |some (off,_,n)=>if v.cells.size=n∧off+n≤c.size then Lc P t (DE c off v.cells.toList) l else none
  |none=>none
def mV(P:Program)(t:TypeId)(ok:Bool)(z:Option Value)(vs:List (Nat×Value)):Option Value:=match ok,z with|true,some z=>Hs (Lc P t z.cells vs)|_,_=>Hs (P.built t vs)
def iJ(P:Program)(t:TypeId)(vs:List (Nat×Value)):Option Value:=mV P t (Cj P t) (DU P t) vs
def C4(P:Program)(t:TypeId)(n:Nat)(vs:List (Nat×Value)):Option (TypeId×Array Value):=
 match P.underlying t with
 | some (.slice e)=>match P.info? e with
  | some ie=>match ie.zero with
   |some z=>if n*ie.size>2 ^ 24 then none else
    match Instr.fill (fun i=>some (i*ie.size,ie.size)) ((Array.range (n*ie.size)).map ((if n*ie.size=0 then #[]else z.cells)[· % (if n*ie.size=0 then #[]else z.cells).size]!)) vs with
    |some c=>some (e,c)
    |none=>none
   |none=>none
  |none=>none
 |_=>none
def Ba(w w':World):Prop:=w'.os=w.os∧w'.tape=w.tape∧w'.output=w.output
def Db(P:Program)(s:Sem Value)(h:AX)(K:Value→AX→Prop)(_t:Tg K:=()):Prop:=
 ∀w:World,w.heap=h→ ∃v w',s.run P w=.ok v w'∧Ba w w'∧K v w'.heap
def CallsH(P:Program)(f:FuncId)(args:Array Value)(h:AX)(R:Ending→AX→Prop):Prop:=
 ∀w:World,w.heap=h→Calls P f args w fun e w'=>R e w'.heap∧Ba w w'
def PV(P:Program)(t:TypeId)(x i:Value)(K:Value→Prop):Prop:=
 match x,i with
 | .string s,.int _ n=>Br (P.underlying t=some .string∧0≤n) (A9 s.data[n.toNat]? fun b=>K (.int .u8 b.toNat))
 | .agg cs,.int _ n=>match P.underlying t with
  |some (.array len e)=>Br (0≤n∧n<len) (A9 (DP P e) fun s=>A9 (GW P e cs (n.toNat*s.2)) K)
  |_=>False
 |_,_=>False
def PQ(P:Program)(t:TypeId)(x i:Value)(K:Value→Prop):Prop:=
 match x,i with
 | .slice (some a) len _,.int _ n=>A9 (PR P t) fun e=>Br (0≤n∧n<len) (K (.pointer (some (a.add (n.toNat*e.2.1)))))
 | .pointer (some a),.int _ n=>match P.underlying t with
  |some (.array len e)=>A9 (DP P e) fun s=>Br (0≤n∧n<len) (K (.pointer (some (a.add (n.toNat*s.2)))))
  |_=>False
 |_,_=>False
def DL:Option Value→Nat→Option Int
 |none,d=>some d
 |some (.int _ n),_=>some n
 |_,_=>none
def ll(P:Program)(t:TypeId)(x:Value)(lo hi:Option Value)(K:Value→Prop):Prop:=
 match x with
 | .string s=>A9 (DL lo 0) fun l=>A9 (DL hi s.size) fun r=>Br (P.underlying t=some .string∧0≤l∧l≤r∧r≤s.size) (K (.string (s.extract l.toNat r.toNat)))
 | .slice a len cap=>A9 (PR P t) fun e=>A9 (DL lo 0) fun l=>A9 (DL hi len) fun r=>
   Br (0≤l∧l≤r∧r≤cap) (K (.slice (if cap=l.toNat then a else a.map (·.add (l.toNat*e.2.1))) (r.toNat - l.toNat) (cap - l.toNat)))
 |_=>False
def PZ(P:Program)(t:TypeId)(x:Value)(lo hi:Option Value)(mx:Value)(K:Value→Prop):Prop:=
 match x with
 | .slice a len cap=>A9 (PR P t) fun e=>A9 (DL lo 0) fun l=>A9 (DL hi len) fun r=>A9 (DL (some mx) cap) fun m=>
   Br (hi≠none∧0≤l∧l≤r∧r≤m∧m≤cap) (K (.slice (if m=l then a else a.map (·.add (l.toNat*e.2.1))) (r.toNat - l.toNat) (m.toNat - l.toNat)))
 |_=>False
def Fj(ρ:Bc):Option Operand→Option (Option Value)
 |none=>some none
 |some x=>(BM ρ x).map some
def Hz(P:Program)(t:TypeId)(x:Value)(h:AX)(K:Value→Prop):Prop:=
 match x with
 | .string s=>Br (P.underlying t=some .string) (K (.int .i64 s.size))
 | .slice _ n _=>A9 (PR P t) fun _=>K (.int .i64 n)
 | .map none=>match P.underlying t with|some (.map _ _)=>K (.int .i64 0)|_=>False
 | .map (some r)=>match P.underlying t,h[r]? with|some (.map _ _),some (.map es _)=>K (.int .i64 es.size)|_,_=>False
 |_=>False
def U2(P:Program)(s d:TypeId)(x:Value)(h:AX)(K:Value→AX→Prop):Prop:=
 match P.underlying s,P.underlying d with
 |some _,some (.int k)=>match x with
  | .int _ n=>K (.int k (k.wrap n)) h
  |_=>False
 |some (.int _),some .string=>match x with
  | .int _ n=>K (.string (Utf8.encode n)) h
  |_=>False
 |some .string,some .string=>match x with
  | .string b=>K (.string b) h
  |_=>False
 |_,_=>Db P (convert s d x) h K
def Jq(P:Program)(o:Op)(ty:TypeId)(ρ:Bc)(h:AX)(K:Value→AX→Prop):Prop:=
 match o with
 | .move x=>A9 (BM ρ x) fun v=>K v h
 | .assign x=>A9 (BM ρ x) fun v=>K v h
 | .pick c a b=>A9 (BM ρ c) fun v=>Sx v (A9 (BM ρ a) fun u=>K u h) (A9 (BM ρ b) fun u=>K u h)
 | .alloc e=>A9 (DU P e) fun z=>K (.pointer (some ⟨h.size,0,none⟩)) (h.push (.cells z.cells e))
 | .box e x=>A9 (BM ρ x) fun v=>K (.pointer (some ⟨h.size,0,none⟩)) (h.push (.cells v.cells e))
 | .build t ps=>A9 (Ae ρ ps.toList) fun vs=>A9 (iJ P t vs) fun v=>K v h
 | .buildSlice t n ps=>A9 (Ae ρ ps.toList) fun vs=>A9 (C4 P t n vs) fun r=>K (.slice (some ⟨h.size,0,none⟩) n n) (h.push (.cells r.2 r.1))
 | .load t x=>A9 (BM ρ x) fun p=>A9 (D7 p) fun a=>A9 (K7 P h t a) fun v=>K v h
 | .store t x y=>A9 (BM ρ x) fun p=>A9 (D7 p) fun a=>A9 (BM ρ y) fun v=>A9 (DP P t) fun s=>Br (v.cells.size=s.2) (A9 (HG h a v.cells.toList) fun h'=>K undef h')
 | .nilCheck x=>A9 (BM ρ x) fun p=>A9 (D7 p) fun _=>K p h
 | .binOp op t x y _=>A9 (BM ρ x) fun a=>A9 (BM ρ y) fun b=>Cv P op t a b fun v=>K v h
 | .unOp op _ x=>A9 (BM ρ x) fun v=>A9 (unV op v) fun u=>K u h
 | .convert s d x=>A9 (BM ρ x) fun v=>U2 P s d v h K
 | .makeInterface t x=>A9 (BM ρ x) fun v=>Br (P.concrete t=true) (K (.iface t v) h)
 | .makeFunc fn fs cs=>A9 (G8 ρ fs.toList) fun us=>A9 (G8 ρ cs.toList) fun vs=>K (.func fn us.toArray vs.toArray) h
 | .makeMap _ none=>K (.map (some h.size)) (h.push (.map #[] 0))
 | .makeSlice t l c=>A9 (BM ρ l) fun lv=>A9 (BM ρ c) fun cv=>Db P (Instr.makeSlice t lv cv) h K
 | .slice t x lo hi none=>A9 (BM ρ x) fun v=>A9 (Fj ρ lo) fun l=>A9 (Fj ρ hi) fun r=>ll P t v l r fun u=>K u h
 | .slice t x lo hi (some m)=>A9 (BM ρ x) fun v=>A9 (Fj ρ lo) fun l=>A9 (Fj ρ hi) fun r=>A9 (BM ρ m) fun mv=>PZ P t v l r mv fun u=>K u h
 | .fieldAddr t x i=>A9 (BM ρ x) fun p=>A9 (D7 p) fun a=>A9 (Cr P t i) fun f=>Br (f.2.2≠0) (K (.pointer (some (a.add f.1))) h)
 | .field t x i=>A9 (BM ρ x) fun v=>A9 (gO P t i v) fun u=>K u h
 | .indexAddr t x i=>A9 (BM ρ x) fun v=>A9 (BM ρ i) fun n=>PQ P t v n fun u=>K u h
 | .index t x i=>A9 (BM ρ x) fun v=>A9 (BM ρ i) fun n=>PV P t v n fun u=>K u h
 | .lookup t x i ok=>A9 (BM ρ x) fun m=>A9 (BM ρ i) fun k=>Db P (Instr.lookup t m k ok) h K
 | .mapUpdate t x i y=>A9 (BM ρ x) fun m=>A9 (BM ρ i) fun k=>A9 (BM ρ y) fun v=>Db P (do Instr.mapUpdate t m k v;Pure.pure undef) h K
 | .insert t x i y=>A9 (BM ρ x) fun m=>A9 (BM ρ i) fun k=>A9 (BM ρ y) fun v=>Db P (do Instr.mapUpdate t m k v;Pure.pure undef) h K
 | .range t x=>A9 (BM ρ x) fun v=>Db P (Instr.range t v) h K
 | .next x s=>A9 (BM ρ x) fun v=>Db P (Instr.next v s ty) h K
 | .typeAssert x t a ok=>A9 (BM ρ x) fun v=>Db P (Instr.typeAssert v t a ok) h K
 | .extract x i=>A9 (BM ρ x) fun v=>match v with| .tuple vs=>A9 vs[i]? fun u=>K u h|_=>False
 | .call {callee:=.builtin b,args,argTypes}=>A9 (G8 ρ args.toList) fun vs=>
  match b,vs,argTypes.toList with
  | .len,[v],[t]=>Hz P t v h fun u=>K u h
  | .append,_,_=>Db P (Builtin.append_ argTypes ty vs.toArray) h K
  | .cap,_,_=>Db P (Builtin.cap_ argTypes ty vs.toArray) h K
  | .copy,_,_=>Db P (Builtin.copy_ argTypes ty vs.toArray) h K
  | .delete,_,_=>Db P (Builtin.delete_ argTypes ty vs.toArray) h K
  | .clear,_,_=>Db P (Builtin.clear_ argTypes ty vs.toArray) h K
  | .unsafeSliceData,_,_=>Db P (Builtin.unsafeSliceData_ argTypes ty vs.toArray) h K
  | .unsafeString,_,_=>Db P (Builtin.unsafeString_ argTypes ty vs.toArray) h K
  | .max,[.int k x,.int _ y],_=>K (.int k (if x<y then y else x)) h
  | .min,[.int k x,.int _ y],_=>K (.int k (if y<x then y else x)) h
  |_,_,_=>False
 |_=>False
def BL(n:Nat)(dst:Option Nat)(v:Value)(ρ:Bc)(K:Bc→Prop):Prop:=match dst with|some d=>Br (d<n) (K ((d,some v)::ρ))|none=>K ρ
def oL{n:Nat}{dst:Option Nat}(ρ:Bc){K:Bc→AX→Prop}{X:List PanicEntry→AX→Prop}(_t:Tg (n,dst,K,X))(e:Ending)(h:AX):Prop:=
 match e with
 | .returned v=>BL n dst v ρ fun ρ'=>K ρ' h
 | .panicked ch=>X ch h
 | .outgrown=>False
def fe(P:Program)(g:FuncId)(args:Array Value)(h:AX)(Q:Ending→AX→Prop):Prop:=
 ∀w:World,w.heap=h→ ∃v w',(callFunc g args).run P w=.ok (.value v) w'∧Ba w w'∧Q (.returned v) w'.heap
def bE(P:Program)(f:FuncId)(args:Array Value)(h:AX)(p:Value×AX):Prop:=P.inits.idxOf? f=none∧CallsH P f args h fun e h'=>e=.returned p.1∧h'=p.2
open Classical in
noncomputable def LD(P:Program)(f:FuncId)(args:Array Value)(h:AX):Option (Value×AX):=if H: ∃p,bE P f args h p then some H.choose else none
def Bz(P:Program)(f:FuncId)(args:Array Value)(h:AX)(Q:Ending→AX→Prop):Prop:=match LD P f args h with|some p=>Q (.returned p.1) p.2|none=>CallsH P f args h Q
def Tn(P:Program)(f:Value)(vs:List Value)(h:AX)(Q:Ending→AX→Prop):Prop:=
 match f with
 | .func (.func g) fs cs=>if AD P g=true then Bz P g (fs++vs.toArray++cs) h Q else fe P g (fs++vs.toArray++cs) h Q
 |_=>False
def Bb(P:Program)(n:Nat)(o:Oper)(ρ:Bc)(h:AX)(K:Bc→AX→Prop)(X:List PanicEntry→AX→Prop):Prop:=
 match o.op with
 | .call {callee:=.value f,args, ..}=>A9 (BM ρ f) fun fv=>A9 (G8 ρ args.toList) fun vs=>Tn P fv vs h (@oL n o.dst ρ K X ())
 | .panic x=>A9 (BM ρ x) fun v=>match v with| .iface t u=>X [{v:=.iface t u,recovered:=false}] h|_=>False
 |op=>Jq P op o.type ρ h fun v h'=>BL n o.dst v ρ fun ρ'=>K ρ' h'
def Bv(cur:Option (Nat×Bool)):List Oper→List Oper
 | []=>[]
 |o::l=>if o.guard=cur then []else o::Bv cur l
def Cb(cur:Option (Nat×Bool)):List Oper→List Oper
 | []=>[]
 |o::l=>if o.guard=cur then o::l else Cb cur l
def C2(all:List Oper)(j:Nat):Option Nat:=match all[j]? with|some o=>o.dst|none=>none
def Cw:Op→Bool
 | .move _| .pick .. | .extract .. =>true
 | .binOp op .. =>match op with| .quo| .rem| .shl| .shr=>false|_=>true
 | .unOp .. =>true
 | .call {callee:=.builtin .len, ..}=>true
 |_=>false
def FF:List Oper→Bool
 | []=>true
 |o::l=>Cw o.op&&FF l
def DD(want:Bool)(s:Nat)(op:Op):Option Operand:=
 match want,op with
 |false,.pick (.tmp t) (.const (.bool true)) y=>if t=s then some y else none
 |true,.pick (.tmp t) y (.const (.bool false))=>if t=s then some y else none
 |_,_=>none
def C7(all:List Oper)(s j:Nat)(want:Bool):List Nat→List Oper→Bool
 |_,[]=>true
 | sk,o::l=>match o.dst,o.guard with
  | some d,some (j',w')=>if d=s then false else if j'=j∧w'=want then C7 all s j want (d::sk) l
   else match C2 all j' with
    |some s'=>if s'∈sk then C7 all s j want (d::sk) l else false
    |none=>false
  |_,_=>false
def D5:List Oper→Bc→Bc
 | [],ρ=>ρ
 |o::l,ρ=>match o.dst with
  |some d=>D5 l ((d,none)::ρ)
  |none=>D5 l ρ
def EM(want b c:Bool):Bool:=if want then b&&c else b||c
def Dg(n:Nat)(dst:Option Nat)(want b:Bool)(y:Value)(ρ:Bc)(K:Bc→Prop):Prop:=match y with| .bool c=>BL n dst (.bool (EM want b c)) ρ K|_=>False
def CM(P:Program)(n:Nat)(all:List Oper):Nat→Option (Nat×Bool)→List Oper→Bc→AX→(Bc→AX→Prop)→(List PanicEntry→AX→Prop)→Prop
 |0,_,_,_,_,_,_=>False
 |_+1,_,[],ρ,h,K,_=>K ρ h
 | m +1,cur,o::rest,ρ,h,K,X=>
  if o.guard=cur then Bb P n o ρ h (fun ρ' h'=>CM P n all m cur rest ρ' h' K X) X
  else match o.guard with
   |none=>False
   | some (j,want)=>A9 (C2 all j) fun s=>A9 (get ρ s) fun v=>match v with
    | .bool b=>Br (C7 all s j want [] (Bv cur (o::rest))=true)
     (match FF (Bv cur (o::rest)),Cb cur (o::rest)with
     |true,p::after=>match DD want s p.op with
      |some y=>CM P n all m (some (j,want)) (Bv cur (o::rest)) ρ h (fun ρ' h'=>A9 (BM ρ' y) fun c=>Dg n p.dst want b c (D5 (Bv cur (o::rest)) ρ) fun ρ''=>CM P n all m cur after ρ'' h' K X) X
      |none=>False
     |_,after=>Lo (b==want) (CM P n all m (some (j,want)) (Bv cur (o::rest)) ((s,some (.bool want))::ρ) h (fun ρ' h'=>CM P n all m cur after ρ' h' K X) X) (CM P n all m cur after (D5 (Bv cur (o::rest)) ((s,some (.bool (!want)))::ρ)) h K X))
    |_=>False
inductive It where
 |code (c:Code)
 |blk (id:Nat)
 |lp (c:Code)
 |sc (c:Code)
structure Cx where
 P:Program
 f:FuncId
 fn:Func
 n:Nat
 live:List Nat
 R:Ending→AX→Prop
def It.item:It→Item
 | .code c=>.code c
 | .blk id=>.inBlock id
 | .lp c=>.inLoop c
 | .sc c=>.inScope c
def J1:Code→Nat
 | .seq a b=>J1 a+J1 b+1
 | .cond _ a b=>J1 a+J1 b+1
 | .block _ c=>J1 c+2
 | .scope c=>J1 c+2
 |_=>1
def O0:It→Nat
 | .code c=>J1 c
 |_=>1
def LZ:List It→Nat
 | []=>0
 |x::k=>O0 x+LZ k
def DG(id:Nat):List It→Option (List It)
 | []=>none
 | .blk id'::k=>if id'=id then some k else DG id k
 |_::k=>DG id k
theorem FW(id:Nat): ∀k k',DG id k=some k'→LZ k'≤LZ k
 | [],_,h=>by simp[DG]at h
 | .blk i::k,k',h=>by
  unfold DG at h
  split at h
  ·cases h;simp[LZ]
  ·have:=FW id k k' h;simp only[LZ];omega
 | .code c::k,k',h=>by have:=FW id k k' (by simpa[DG]using h);simp only[LZ];omega
 | .lp c::k,k',h=>by have:=FW id k k' (by simpa[DG]using h);simp only[LZ];omega
 | .sc c::k,k',h=>by have:=FW id k k' (by simpa[DG]using h);simp only[LZ];omega
class DefD where
 ds:List Deferred
 kd:CallKind
def eM[dd:DefD](P:Program)(fr:Frame)(w:World):Ending→Prop
 | .returned v=>fr.mode=.returning∧fr.defers=DefD.ds∧fr.kind=DefD.kd∧ ∃fn,P.funcs[fr.fn]? =some fn∧(results fn fr.tmps).run P w=.ok v w
 | .panicked chain=>fr.mode=.panicking chain∧fr.defers=DefD.ds∧ ∃fn,P.funcs[fr.fn]? =some fn
 | .outgrown=>True
def D3[dd:DefD](P:Program)(b:Frame)(todo:List Item)(a:Act)(w:World)(R:Ending→World→Prop):Prop:=
 ∀cs,∃e w' fr,R e w'∧Comes P (lone (b.at a todo) cs w) (lone fr cs w') e∧fr.fn=b.fn∧eM P fr w' e
def Ch[dd:DefD](n:Nat)(ρ:Bc)(a:Act):Prop:=a.defers=DefD.ds∧a.tmps.size=n∧ ∀t v,get ρ t=some v→a.tmps[t]? =some v
def Hy[dd:DefD]{c:Cx}{k:List It}(ρ:Bc)(h:AX)(_t:Tg (c,k)):Prop:=
 c.P.funcs[c.f]? =some c.fn→ ∀(b:Frame) (a:Act) (w:World),b.fn=c.f→b.kind=DefD.kd→Ch c.n ρ a→w.heap=h→
  D3 c.P b (k.map It.item) a w fun e w'=>c.R e w'.heap∧Ba w w'
def Bx[dd:DefD]{c:Cx}{body:Code}{k:List It}(ρ:Bc)(h:AX)(_t:Tg (c,body,k)):Prop:=
 c.P.funcs[c.f]? =some c.fn→ ∀(b:Frame) (a:Act) (w:World),b.fn=c.f→b.kind=DefD.kd→Ch c.n ρ a→w.heap=h→
  D3 c.P b (.code body:: .inLoop body::k.map It.item) a w fun e w'=>c.R e w'.heap∧Ba w w'
def Qw(o:Option Value):Option Addr:=match o with|some p=>D7 p|none=>none
def oRd(P:Program)(h:AX)(ty:TypeId)(o:Option Addr):Option Value:=match o with|some a=>K7 P h ty a|none=>none
def Sj(P:Program)(ρ:Bc)(h:AX):ResultVar→Option Value
 | .tmp t=>get ρ t
 | .cell s ty=>oRd P h ty (Qw (get ρ s))
def LG(P:Program)(ρ:Bc)(h:AX):List ResultVar→Option (List Value)
 | []=>some []
 |r::l=>Em (Sj P ρ h r) (LG P ρ h l)
def one:List Value→Value
 | [v]=>v
 |vs=>.tuple vs.toArray
def XP(c:Cx)(ρ:Bc)(h:AX):Prop:=A9 (LG c.P ρ h c.fn.results.toList) fun vs=>c.R (.returned (one vs)) h
def Dc[dd:DefD](c:Cx)(k:List It)(ρ:Bc)(h:AX):Prop:=
 match _hk:k with
 | []=>XP c ρ h
 | .blk _::k=>Dc c k ρ h
 | .sc _::k=>Dc c k ρ h
 | .lp body::k=> @Bx dd c body k (canon c.live ρ) h ()
 | .code .skip::k=>Dc c k ρ h
 | .code (.label _)::k=>Dc c k ρ h
 | .code .ret::_=>XP c ρ h
 | .code (.seq x y)::k=>Dc c (.code x:: .code y::k) ρ h
 | .code (.cond x t e)::k=>A9 (BM ρ x) fun v=>Sx v (Dc c (.code t::k) ρ h) (Dc c (.code e::k) ρ h)
 | .code (.block id b)::k=>Dc c (.code b:: .blk id::k) ρ h
 | .code (.scope b)::k=>Dc c (.code b:: .sc b::k) ρ h
 | .code (.loop body)::k=> @Bx dd c body k (canon c.live ρ) h ()
 | .code (.exit id)::k=>match _he:DG id k with
  |some k'=>Dc c k' ρ h
  |none=>False
 | .code (.region _ ops false)::k=>CM c.P c.n ops.toList 400 none ops.toList (canon c.live ρ) h (fun ρ' h'=>Dc c k ρ' h') fun ch h'=>c.R (.panicked ch) h'
 | .code (.region id ops true)::k=> @Hy dd c (.code (.region id ops true)::k) (canon c.live ρ) h ()
 | .code _::_=>False
termination_by LZ k
decreasing_by
 all_goals simp only[LZ,O0,J1]<;>(try omega)
 have:=FW _ _ _ ‹_›
 omega
def mY[dd:DefD](c:Cx)(k:Option (List It))(ρ:Bc)(h:AX):Prop:=match k with|some k=>Dc c k ρ h|none=>False
end Go.Vm
