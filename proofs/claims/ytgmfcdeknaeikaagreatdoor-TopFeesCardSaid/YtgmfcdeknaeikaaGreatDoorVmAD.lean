/-
The evaluator over known blocks: definition, calls, tables, draws.
Conditions: none.
-/
import Derived.Test.YtgmfcdeknaeikaaGreatDoorVmMap
set_option linter.unusedSimpArgs false
set_option linter.unusedVariables false
namespace Go.Vm
abbrev Nu:=Nat→Nat
abbrev AH:=List (Nat×Obj)
def AA:AH→Nat→Option Obj
 | [],_=>none
 |(b,o)::A,x=>if b=x then some o else AA A x
def Dw:AH→Nat→Obj→AH
 | [],_,_=>[]
 |(b,o)::A,x,u=>if b=x then(b,u)::A else(b,o)::Dw A x u
def CQ(A:AH)(h:AL):Prop:= ∀b o,AA A b=some o→h[b]? =some o
def BN(A:AH)(h:AL)(A':AH)(h':AL):Prop:=h.size≤h'.size∧ ∀b,b<h.size→AA A b=none→h'[b]? =h[b]? ∧AA A' b=none
def OE(ν:Nu):Prop:= ∀i j,ν i=ν j→i=j
def Bu(ν:Nu)(A:AH):Prop:=OE ν∧ ∀i,AA A (ν i)=none
def Gl(A:AH)(h:AL)(K:Value→AH→Prop)(e:Ending)(h':AL):Prop:= ∃v A',e=.returned v∧CQ A' h'∧BN A h A' h'∧K v A'
def Di(P:Program)(g:FuncId)(args:Array Value)(h:AL)(R:Ending→AL→Prop):Prop:=if BR P g=true then CallsH P g args h R else YR P g args h R
def AK(P:Program)(g:FuncId)(args:Array Value)(A:AH)(K:Value→AH→Prop):Prop:= ∀h,CQ A h→Di P g args h (Gl A h K)
def YT(A:AH)(h:AL)(X:List PanicEntry→AH→Prop)(K:Value→AH→Prop)(e:Ending)(h':AL):Prop:=Gl A h K e h'∨ ∃ch A',e=.panicked ch∧CQ A' h'∧BN A h A' h'∧X ch A'
abbrev Xp:=Option (List PanicEntry→AH→Prop)
def TD(X:Xp)(A:AH)(h:AL)(K:Value→AH→Prop):Ending→AL→Prop:=match X with|none=>Gl A h K|some X=>YT A h X K
def AM(P:Program)(g:FuncId)(args:Array Value)(A:AH)(X:List PanicEntry→AH→Prop)(K:Value→AH→Prop):Prop:= ∀h,CQ A h→Di P g args h (YT A h X K)
def JM(X:Xp)(P:Program)(g:FuncId)(args:Array Value)(A:AH)(K:Value→AH→Prop):Prop:=match X with|none=>AK P g args A K|some X=>AM P g args A X K
def qt(X:Xp)(v:Value)(A:AH):Prop:=match X,v with
 |some X,.iface t u=>X [{v:=.iface t u,recovered:=false}] A
 |_,_=>False
structure Imp where
 l:List Nat
 X:Xp
def JH(P:Program)(g:FuncId)(args:Array Value)(A:AH)(v:Value):Prop:=(BR P g=true→P.inits.idxOf? g=none)∧ ∀h,CQ A h→Di P g args h fun e h'=>e=.returned v∧Grew h h'
open Classical in
noncomputable def Ag(P:Program)(g:FuncId)(args:Array Value)(A:AH):Option Value:=if H: ∃v,JH P g args A v then some H.choose else none
noncomputable def Re(P:Program)(imp:Imp)(g:FuncId)(args:Array Value)(A:AH)(ν:Nu)(n:Nat)(K:Nu→Nat→Value→AH→Prop)(_t:Tg K:=()):Prop:=
 if g∈imp.l then JM imp.X P g args A fun v A'=> ∀ν',Bu ν' A'→K ν' 0 v A' else AZ (Ag P g args A) fun v=>K ν n v A
noncomputable def NS(P:Program)(imp:Imp)(f:Value)(vs:List Value)(A:AH)(ν:Nu)(n:Nat)(K:Nu→Nat→Value→AH→Prop):Prop:=
 match f with
 | .func (.func g) fs cs=>Re P imp g (fs++vs.toArray++cs) A ν n K
 |_=>False
def Fv(P:Program)(s:Sem Value)(A:AH)(K:Value→AH→Prop):Prop:= ∀h,CQ A h→CJ P s h fun v h'=> ∃A',CQ A' h'∧BN A h A' h'∧K v A'
def LX(P:Program)(s:Sem Value)(A:AH)(v:Value):Prop:= ∀w:World,CQ A w.heap→s.run P w=.ok v w
open Classical in
noncomputable def Ex(P:Program)(s:Sem Value)(A:AH):Option Value:=if H: ∃v,LX P s A v then some H.choose else none
noncomputable def JJ(P:Program)(s:Sem Value)(A:AH)(ν:Nu)(n:Nat)(K:Nu→Nat→Value→AH→Prop)(_t:Tg K:=()):Prop:=AZ (Ex P s A) fun v=>K ν n v A
def Dz(P:Program)(s:Sem Value)(A:AH)(ν:Nu)(n:Nat)(K:Nu→Nat→Value→AH→Prop)(_t:Tg K:=()):Prop:=Fv P s A fun v A'=> ∀ν',Bu ν' A'→K ν' 0 v A'
def tH(s:Option (Bool×Nat))(o:Option Obj)(a:Addr):Option Value:=match s with
 |some (true,n)=>if a.spot=none then Gp (DW o a.off n)else none
 |some (false,_)=>if a.spot=none then Lh o a.off else none
 |none=>none
def Ew(P:Program)(A:AH)(t:TypeId)(a:Addr):Option Value:=tH (J4 P t) (AA A a.block) a
def kS(A:AH)(b:Nat)(o:Option Obj)(i:Nat)(vs:List Value):Option AH:=match o with
 |some (.cells c e fr)=>if i+vs.length≤c.size∧(fr.2≤i∨i+vs.length≤fr.1)∧DH vs=true then some (Dw A b (.cells (By c i vs) e fr))else none
 |_=>none
def pO(A:AH)(a:Addr)(vs:List Value):Option AH:=if a.spot=none then kS A a.block (AA A a.block) a.off vs else none
def mm(u:Option TypeDesc)(o:Option Obj)(K:Value→Prop):Prop:=QY u o K
def HT(P:Program)(t:TypeId)(x:Value)(A:AH)(K:Value→Prop):Prop:=
 match x with
 | .map (some r)=>mm (P.underlying t) (AA A r) K
 |x=>G4 P t x #[] K
noncomputable def Hk(P:Program)(s d:TypeId)(us ud:Option TypeDesc)(x:Value)(A:AH)(ν:Nu)(n:Nat)(K:Nu→Nat→Value→AH→Prop):Prop:=
 match us,ud with
 |some _,some (.int k)=>match x with
  | .int _ m=>K ν n (.int k (k.wrap m)) A
  |_=>False
 |some (.int _),some .string=>match x with
  | .int _ m=>K ν n (.string (Utf8.encode m)) A
  |_=>False
 |some .string,some .string=>match x with
  | .string b=>K ν n (.string b) A
  |_=>False
 |some (.slice _),some .string=>JJ P (convert s d x) A ν n K
 |_,_=>Dz P (convert s d x) A ν n K
def KO(P:Program)(t:TypeId)(x:Value)(A:AH)(ν:Nu)(n:Nat)(K:Nu→Nat→Value→AH→Prop):Prop:=match x with
 | .string s=>Ay (P.underlying t=some .string) (K ν (n+1) (.pointer (some ⟨ν n,0,none⟩)) ((ν n,.stringIter s 0)::A))
 |x=>Dz P (Instr.range t x) A ν n K
def L6(r:Nat)(o:Option Obj)(A:AH)(ν:Nu)(n:Nat)(K:Nu→Nat→Value→AH→Prop):Prop:=match o with
 |some (.stringIter s pos)=>KJ (decide (pos<s.size)) (K ν n (.tuple #[.bool true,.int .i64 pos,.int .i32 (Utf8.decode s pos).1]) (Dw A r (.stringIter s (pos+(Utf8.decode s pos).2)))) (K ν n (.tuple #[.bool false]) A)
 |_=>False
def Nr(P:Program)(x:Value)(st:Bool)(ty:TypeId)(A:AH)(ν:Nu)(n:Nat)(K:Nu→Nat→Value→AH→Prop):Prop:=match x,st with
 | .pointer (some ⟨r,0,none⟩),true=>L6 r (AA A r) A ν n K
 |x,st=>Dz P (Instr.next x st ty) A ν n K
def MK(P:Program)(ρ:Ak)(A:AH):ResultVar→Option Value
 | .tmp t=>get ρ t
 | .cell s ty=>match Ns (get ρ s)with|some a=>Ew P A ty a|none=>none
def F9(P:Program)(ρ:Ak)(A:AH):List ResultVar→Option (List Value)
 | []=>some []
 |r::l=>Dd (MK P ρ A r) (F9 P ρ A l)
noncomputable def BC(P:Program)(imp:Imp)(nt:Nat)(o:Oper)(ν:Nu)(n:Nat)(ρ:Ak)(A:AH)(K:Nu→Nat→Ak→AH→Prop):Prop:=
 match o.op with
 | .call {callee:=.value f,args, ..}=>AZ (Aa ρ f) fun fv=>AZ (GD ρ args.toList) fun vs=>NS P imp fv vs A ν n fun ν n v A=>Ac nt o.dst v ρ fun ρ'=>K ν n ρ' A
 | .load t x=>AZ (Aa ρ x) fun p=>AZ (Co p) fun a=>AZ (Ew P A t a) fun v=>Ac nt o.dst v ρ fun ρ'=>K ν n ρ' A
 | .store t x y=>AZ (Aa ρ x) fun p=>AZ (Co p) fun a=>AZ (Aa ρ y) fun v=>AZ (J4 P t) fun s=>Ay (v.cells.size=s.2) (AZ (pO A a v.cells.toList) fun A'=>Ac nt o.dst undef ρ fun ρ'=>K ν n ρ' A')
 | .alloc e=>AZ (JA P e) fun z=>Ac nt o.dst (.pointer (some ⟨ν n,0,none⟩)) ρ fun ρ'=>K ν (n+1) ρ' ((ν n,.cells z.cells e)::A)
 | .box e x=>AZ (Aa ρ x) fun v=>Ac nt o.dst (.pointer (some ⟨ν n,0,none⟩)) ρ fun ρ'=>K ν (n+1) ρ' ((ν n,.cells v.cells e)::A)
 | .buildSlice t m ps=>AZ (AE ρ ps.toList) fun vs=>AZ (BP P t m vs) fun r=>Ac nt o.dst (.slice (some ⟨ν n,0,none⟩) m m) ρ fun ρ'=>K ν (n+1) ρ' ((ν n,.cells r.2 r.1)::A)
 | .makeMap _ none=>Ac nt o.dst (.map (some (ν n))) ρ fun ρ'=>K ν (n+1) ρ' ((ν n,.map #[] 0)::A)
 | .convert s d x=>AZ (Aa ρ x) fun v=>Hk P s d (P.underlying s) (P.underlying d) v A ν n fun ν n u A=>Ac nt o.dst u ρ fun ρ'=>K ν n ρ' A
 | .makeSlice t l c=>AZ (Aa ρ l) fun lv=>AZ (Aa ρ c) fun cv=>Dz P (Instr.makeSlice t lv cv) A ν n fun ν n u A=>Ac nt o.dst u ρ fun ρ'=>K ν n ρ' A
 | .lookup t x i ok=>AZ (Aa ρ x) fun m=>AZ (Aa ρ i) fun k=>JJ P (Instr.lookup t m k ok) A ν n fun ν n u A=>Ac nt o.dst u ρ fun ρ'=>K ν n ρ' A
 | .mapUpdate t x i y=>AZ (Aa ρ x) fun m=>AZ (Aa ρ i) fun k=>AZ (Aa ρ y) fun v=>Dz P (do Instr.mapUpdate t m k v;Pure.pure undef) A ν n fun ν n u A=>Ac nt o.dst u ρ fun ρ'=>K ν n ρ' A
 | .insert t x i y=>AZ (Aa ρ x) fun m=>AZ (Aa ρ i) fun k=>AZ (Aa ρ y) fun v=>Dz P (do Instr.mapUpdate t m k v;Pure.pure undef) A ν n fun ν n u A=>Ac nt o.dst u ρ fun ρ'=>K ν n ρ' A
 | .range t x=>AZ (Aa ρ x) fun v=>KO P t v A ν n fun ν n u A=>Ac nt o.dst u ρ fun ρ'=>K ν n ρ' A
 | .next x s=>AZ (Aa ρ x) fun v=>Nr P v s o.type A ν n fun ν n u A=>Ac nt o.dst u ρ fun ρ'=>K ν n ρ' A
 | .typeAssert x t a ok=>AZ (Aa ρ x) fun v=>JJ P (Instr.typeAssert v t a ok) A ν n fun ν n u A=>Ac nt o.dst u ρ fun ρ'=>K ν n ρ' A
 | .call {callee:=.builtin b,args,argTypes}=>AZ (GD ρ args.toList) fun vs=>
  match b,vs,argTypes.toList with
  | .len,[v],[t]=>HT P t v A fun u=>Ac nt o.dst u ρ fun ρ'=>K ν n ρ' A
  | .append,_,_=>Dz P (Builtin.append_ argTypes o.type vs.toArray) A ν n fun ν n u A=>Ac nt o.dst u ρ fun ρ'=>K ν n ρ' A
  | .cap,_,_=>JJ P (Builtin.cap_ argTypes o.type vs.toArray) A ν n fun ν n u A=>Ac nt o.dst u ρ fun ρ'=>K ν n ρ' A
  | .copy,_,_=>Dz P (Builtin.copy_ argTypes o.type vs.toArray) A ν n fun ν n u A=>Ac nt o.dst u ρ fun ρ'=>K ν n ρ' A
  | .delete,_,_=>Dz P (Builtin.delete_ argTypes o.type vs.toArray) A ν n fun ν n u A=>Ac nt o.dst u ρ fun ρ'=>K ν n ρ' A
  | .clear,_,_=>Dz P (Builtin.clear_ argTypes o.type vs.toArray) A ν n fun ν n u A=>Ac nt o.dst u ρ fun ρ'=>K ν n ρ' A
  | .unsafeSliceData,_,_=>JJ P (Builtin.unsafeSliceData_ argTypes o.type vs.toArray) A ν n fun ν n u A=>Ac nt o.dst u ρ fun ρ'=>K ν n ρ' A
  | .unsafeString,_,_=>Dz P (Builtin.unsafeString_ argTypes o.type vs.toArray) A ν n fun ν n u A=>Ac nt o.dst u ρ fun ρ'=>K ν n ρ' A
  | .max,[.int k x,.int _ y],_=>Ac nt o.dst (.int k (if x<y then y else x)) ρ fun ρ'=>K ν n ρ' A
  | .min,[.int k x,.int _ y],_=>Ac nt o.dst (.int k (if y<x then y else x)) ρ fun ρ'=>K ν n ρ' A
  |_,_,_=>False
 | .panic x=>AZ (Aa ρ x) fun v=>qt imp.X v A
 |op=>Ay (KE P op=true) (Am P nt o ρ #[] (fun ρ' _=>K ν n ρ' A) fun _ _=>False)
noncomputable def At(P:Program)(imp:Imp)(nt:Nat)(all:List Oper):Nat→Option (Nat×Bool)→List Oper→Nu→Nat→Ak→AH→(Nu→Nat→Ak→AH→Prop)→Prop
 |0,_,_,_,_,_,_,_=>False
 |_+1,_,[],ν,n,ρ,A,K=>K ν n ρ A
 | m +1,cur,o::rest,ν,n,ρ,A,K=>
  if o.guard=cur then BC P imp nt o ν n ρ A fun ν n ρ' A=>At P imp nt all m cur rest ν n ρ' A K
  else match o.guard with
   |none=>False
   | some (j,want)=>AZ (Bq all j) fun s=>AZ (get ρ s) fun v=>match v with
    | .bool b=>Ay (Br all s j want [] (A7 cur (o::rest))=true)
     (match Dy (A7 cur (o::rest)),BQ cur (o::rest)with
     |true,p::after=>match Bv want s p.op with
      |some y=>At P imp nt all m (some (j,want)) (A7 cur (o::rest)) ν n ρ A fun ν n ρ' A=>AZ (Aa ρ' y) fun c=>CO nt p.dst want b c (Ck (A7 cur (o::rest)) ρ) fun ρ''=>At P imp nt all m cur after ν n ρ'' A K
      |none=>False
     |_,after=>KJ (b==want) (At P imp nt all m (some (j,want)) (A7 cur (o::rest)) ν n ((s,some (.bool want))::ρ) A fun ν n ρ' A=>At P imp nt all m cur after ν n ρ' A K) (At P imp nt all m cur after ν n (Ck (A7 cur (o::rest)) ((s,some (.bool (!want)))::ρ)) A K))
    |_=>False
noncomputable def OL(P:Program)(f:Value)(vs:List Value)(A:AH)(K:Value→Prop):Prop:=match f with
 | .func (.func g) fs cs=>Ay (BR P g=true) (AZ (Ag P g (fs++vs.toArray++cs) A) K)
 |_=>False
noncomputable def JO(P:Program)(s d:TypeId)(us ud:Option TypeDesc)(x:Value)(A:AH)(K:Value→Prop):Prop:=
 match us,ud with
 |some _,some (.int k)=>match x with
  | .int _ m=>K (.int k (k.wrap m))
  |_=>False
 |_,_=>AZ (Ex P (convert s d x) A) K
noncomputable def BF(P:Program)(n:Nat)(o:Oper)(ρ:Ak)(A:AH)(K:Ak→Prop):Prop:=
 match o.op with
 | .call {callee:=.value f,args, ..}=>AZ (Aa ρ f) fun fv=>AZ (GD ρ args.toList) fun vs=>OL P fv vs A fun v=>Ac n o.dst v ρ K
 | .load t x=>AZ (Aa ρ x) fun p=>AZ (Co p) fun a=>AZ (Ew P A t a) fun v=>Ac n o.dst v ρ K
 | .convert s d x=>AZ (Aa ρ x) fun v=>JO P s d (P.underlying s) (P.underlying d) v A fun u=>Ac n o.dst u ρ K
 | .lookup t x i ok=>AZ (Aa ρ x) fun m=>AZ (Aa ρ i) fun k=>AZ (Ex P (Instr.lookup t m k ok) A) fun u=>Ac n o.dst u ρ K
 | .call {callee:=.builtin b,args,argTypes}=>AZ (GD ρ args.toList) fun vs=>
  match b,vs,argTypes.toList with
  | .len,[v],[t]=>HT P t v A fun u=>Ac n o.dst u ρ K
  |_,_,_=>False
 |op=>Ay (KE P op=true) (HY P op o.type ρ #[] fun v _=>Ac n o.dst v ρ K)
noncomputable def BJ(P:Program)(n:Nat)(sp:Bool)(all:List Oper)(A:AH):Nat→Option (Nat×Bool)→List Oper→Ak→(Ak→Prop)→Prop
 |0,_,_,_,_=>False
 |_+1,_,[],ρ,K=>K ρ
 | m +1,cur,o::rest,ρ,K=>
  if o.guard=cur then BF P n o ρ A (fun ρ'=>BJ P n sp all A m cur rest ρ' K)
  else match o.guard with
   |none=>False
   | some (j,want)=>AZ (Bq all j) fun s=>AZ (get ρ s) fun v=>match v with
    | .bool b=>Ay (Br all s j want [] (A7 cur (o::rest))=true)
     (match Fc sp (A7 cur (o::rest)),BQ cur (o::rest)with
     |true,p::after=>match Bv want s p.op with
      |some y=>BJ P n sp all A m (some (j,want)) (A7 cur (o::rest)) ρ (fun ρ'=>AZ (Aa ρ' y) fun c=>CO n p.dst want b c (Ck (A7 cur (o::rest)) ρ) fun ρ''=>BJ P n sp all A m cur after ρ'' K)
      |none=>False
     |_,after=>KJ (b==want) (BJ P n sp all A m (some (j,want)) (A7 cur (o::rest)) ((s,some (.bool want))::ρ) (fun ρ'=>BJ P n sp all A m cur after ρ' K)) (BJ P n sp all A m cur after (Ck (A7 cur (o::rest)) ((s,some (.bool (!want)))::ρ)) K))
    |_=>False
def Mr:AH→AH→Prop
 | [],_=>True
 |(b,o)::A,B=>AA B b=some o∧Mr A B
def SubA(A' A:AH):Prop:= ∀b o,AA A' b=some o→AA A b=some o
def A8(imp:Imp):Op→Bool
 | .alloc _| .box .. | .buildSlice .. | .makeMap .. | .store .. | .mapUpdate .. | .insert .. | .makeSlice .. | .range .. | .next .. | .typeAssert .. | .panic .. =>false
 | .call {callee:=.builtin b, ..}=>match b with| .len=>true|_=>false
 | .call {callee:=.value f, ..}=>match f with| .func g=> !imp.l.contains g|_=>false
 |_=>true
def Gx:Op→Bool
 | .load .. | .convert .. | .lookup .. | .call _=>false
 |_=>true
def PX(ops:Array Oper)(j i:Nat):Bool:=match ops[j]? with|some o=>o.after.any (fun e=>Region.binds .any e&&e.on==i)|none=>false
def U2(ops:Array Oper)(j:Nat):Bool:=(List.range ops.size).all fun i=>i==j||PX ops j i||PX ops i j||(match ops[i]? with|some o=>Gx o.op|none=>true)
def H0:List (Nat×Nat)→Nat→Bool
 | [],_=>false
 |(i,m)::l,j=>(i==j&&m==2)||H0 l j
def G7(imp:Imp)(ops:Array Oper)(rs:Nat→Bool):List (Nat×Nat)→Array Bool→Bool
 | [],listed=>(Region.ready .any ops listed).isEmpty
 |(i,m)::l,listed=>(match ops[i]? with
  |some o=>if A8 imp o.op then(Region.ready .any ops listed).contains i&&Region.free .any ops listed i else Region.ready .any ops listed==[i]&&(if m=2 then rs i else true)
  |none=>false)&&G7 imp ops rs l (listed.setIfInBounds i true)
def Dr(ops:Array Oper)(rs:Nat→Bool):Bool:=(List.range ops.size).all fun j=> !rs j||U2 ops j
def Ep(As A':AH)(m:Nat)(K:AH→Prop):Prop:=if m=2 then K A' else Ay (SubA As A') (if m=1 then K A' else K As)
noncomputable def Hv(P:Program)(imp:Imp)(nt:Nat)(As:AH)(m:Nat)(ν:Nu)(n:Nat)(ρ:Ak)(A:AH)(K:AH→Nu→Nat→Ak→AH→Prop)(o:Option Oper):Prop:=match o with
 |some o=>if A8 imp o.op=true then BF P nt o ρ As fun ρ'=>K As ν n ρ' A else BC P imp nt o ν n ρ A fun ν n ρ' A'=>Ep As A' m fun As'=>K As' ν n ρ' A'
 |none=>False
noncomputable def D6(P:Program)(imp:Imp)(nt:Nat)(all:List Oper)(As:AH)(m:Nat)(ν:Nu)(n:Nat)(ρ:Ak)(A:AH)(K:AH→Nu→Nat→Ak→AH→Prop)(o:Option Oper):Prop:=match o with
 |some o=>match o.guard with
  |none=>Hv P imp nt As m ν n ρ A K (some o)
  |some (j,want)=>AZ (Bq all j) fun s=>AZ (get ρ s) fun v=>eP want v (Hv P imp nt As m ν n ρ A K (some o)) (Ac nt o.dst undef ρ fun ρ'=>K As ν n ρ' A)
 |none=>False
noncomputable def Cf(P:Program)(imp:Imp)(nt:Nat)(all:List Oper):List (Nat×Nat)→AH→Nu→Nat→Ak→AH→(Nu→Nat→Ak→AH→Prop)→Prop
 | [],_,ν,n,ρ,A,K=>K ν n ρ A
 |(i,m)::l,As,ν,n,ρ,A,K=>D6 P imp nt all As m ν n ρ A (fun As ν n ρ' A=>Cf P imp nt all l As ν n ρ' A K) all[i]?
inductive Pln where
 |q (sp:Bool)
 |p (l:List (Nat×Nat))
def GM:List (Nat×Pln)→Nat→Option Pln
 | [],_=>none
 |(i,p)::l,j=>if i=j then some p else GM l j
structure CxA where
 P:Program
 f:FuncId
 fn:Func
 n:Nat
 live:List Nat
 imp:Imp
 plans:List (Nat×Pln)
 R:Value→AH→Prop
def CxA.cx(c:CxA)(A0:AH)(h0:AL):Cx:=⟨c.P,c.f,c.fn,c.n,c.live,TD c.imp.X A0 h0 c.R⟩
def AR[dd:DefD]{c:CxA}{body:Code}{k:List It}(ρ:Ak)(A:AH)(_t:Tg (c,body,k)):Prop:= ∀A0 h0 h,CQ A h→BN A0 h0 A h→ @Au dd (c.cx A0 h0) body k ρ h ()
def Av[dd:DefD]{c:CxA}{k:List It}(ρ:Ak)(A:AH)(_t:Tg (c,k)):Prop:= ∀A0 h0 h,CQ A h→BN A0 h0 A h→ @GZ dd (c.cx A0 h0) k ρ h ()
def XX(c:CxA)(ρ:Ak)(A:AH):Prop:=AZ (F9 c.P ρ A c.fn.results.toList) fun vs=>c.R (one vs) A
noncomputable def Az[dd:DefD](c:CxA)(k:List It)(ν:Nu)(n:Nat)(ρ:Ak)(A:AH):Prop:=
 match _hk:k with
 | []=>XX c ρ A
 | .blk _::k=>Az c k ν n ρ A
 | .sc _::k=>Az c k ν n ρ A
 | .lp body::k=> @AR dd c body k (canon c.live ρ) A ()
 | .code .skip::k=>Az c k ν n ρ A
 | .code (.label _)::k=>Az c k ν n ρ A
 | .code .ret::_=>XX c ρ A
 | .code (.seq x y)::k=>Az c (.code x:: .code y::k) ν n ρ A
 | .code (.cond x t e)::k=>AZ (Aa ρ x) fun v=>Pc v (Az c (.code t::k) ν n ρ A) (Az c (.code e::k) ν n ρ A)
 | .code (.block id b)::k=>Az c (.code b:: .blk id::k) ν n ρ A
 | .code (.scope b)::k=>Az c (.code b:: .sc b::k) ν n ρ A
 | .code (.loop body)::k=> @AR dd c body k (canon c.live ρ) A ()
 | .code (.exit id)::k=>match _he:Bz id k with
  |some k'=>Az c k' ν n ρ A
  |none=>False
 | .code (.region _ ops false)::k=>At c.P c.imp c.n ops.toList 400 none ops.toList ν n (canon c.live ρ) A (fun ν n ρ' A=>Az c k ν n ρ' A)
 | .code (.region id ops true)::k=>match GM c.plans id with
  |some (.q sp)=>BJ c.P c.n sp ops.toList A 400 none ops.toList (canon c.live ρ) (fun ρ'=>Az c k ν n ρ' A)
  |some (.p pl)=>Cf c.P c.imp c.n ops.toList pl A ν n (canon c.live ρ) A (fun ν n ρ' A=>Az c k ν n ρ' A)
  |none=> @Av dd c (.code (.region id ops true)::k) (canon c.live ρ) A ()
 | .code _::_=>False
termination_by J1 k
decreasing_by
 all_goals simp only[J1,Lw,Hl]<;>(try omega)
 have:=EH _ _ _ ‹_›
 omega
def Qi(P:Program)(imp:Imp)(plans:List (Nat×Pln)):Code→Bool
 | .region id ops true=>match GM plans id with
  |some (.q _)=>P.follows .mixedOrders&&Region.lexB .any ops
  |some (.p pl)=>P.follows .mixedOrders&&(Region.noSelect ops&&(pl.length==ops.size&&(Dr ops (H0 pl)&&G7 imp ops (H0 pl) pl (Array.replicate ops.size false))))
  |none=>true
 | .seq a b=>Qi P imp plans a&&Qi P imp plans b
 | .cond _ a b=>Qi P imp plans a&&Qi P imp plans b
 | .block _ b=>Qi P imp plans b
 | .scope b=>Qi P imp plans b
 | .loop b=>Qi P imp plans b
 |_=>true
def Wi(P:Program)(imp:Imp)(plans:List (Nat×Pln)):It→Bool
 | .code c=>Qi P imp plans c
 |_=>true
def M5(P:Program)(imp:Imp)(plans:List (Nat×Pln)):List It→Bool
 | []=>true
 |x::k=>Wi P imp plans x&&M5 P imp plans k
noncomputable def UC[dd:DefD](c:CxA)(k:Option (List It))(ν:Nu)(n:Nat)(ρ:Ak)(A:AH):Prop:=match k with|some k=>Az c k ν n ρ A|none=>False
end Go.Vm
namespace Go.Vm
theorem CQ.nil(h:AL):CQ [] h:=fun _ _ hb=>by cases hb
theorem CQ.none_of_size{A:AH}{h:AL}(hs:CQ A h){b:Nat}(hb:h.size≤b):AA A b=none:=by
 cases hl:AA A b with
 |none=>rfl
 |some o=>have:=hs b o hl;rw[Array.getElem?_eq_none hb]at this;cases this
theorem CQ.lt{A:AH}{h:AL}(hs:CQ A h){b:Nat}{o:Obj}(hl:AA A b=some o):b<h.size:=by
 have:=hs b o hl
 rcases Nat.lt_or_ge b h.size with h1|h1
 ·exact h1
 ·rw[Array.getElem?_eq_none h1]at this;cases this
theorem CQ.grew{A:AH}{h h':AL}(hs:CQ A h)(g:Grew h h'):CQ A h':=fun b o hl=>g.get (hs b o hl)
theorem CQ.ex(A:AH): ∃h,CQ A h:=by
 have hN: ∃N,∀b o,AA A b=some o→b<N:=by
  induction A with
  |nil=>exact⟨0,fun b o h=>by cases h⟩
  |cons p A ih=>
   obtain⟨N,hN⟩:=ih
   refine⟨max N (p.1+1),fun b o h=> ?_⟩
   simp only[AA]at h
   split at h
   ·omega
   ·have:=hN b o h;omega
 obtain⟨N,hN⟩:=hN
 refine⟨(Array.range N).map fun i=>(AA A i).getD (.cells #[] 0),fun b o hl=> ?_⟩
 have hb:=hN b o hl
 simp[hb,hl]
theorem BN.refl(A:AH)(h:AL):BN A h A h:=⟨Nat.le_refl _,fun _ _ hl=>⟨rfl,hl⟩⟩
theorem BN.trans{A B C:AH}{h1 h2 h3:AL}(k1:BN A h1 B h2)(k2:BN B h2 C h3):BN A h1 C h3:=⟨Nat.le_trans k1.1 k2.1,fun b hb hl=>by
 obtain⟨e1,l1⟩:=k1.2 b hb hl
 obtain⟨e2,l2⟩:=k2.2 b (Nat.lt_of_lt_of_le hb k1.1) l1
 exact⟨e2.trans e1,l2⟩⟩
theorem BN.grew{A:AH}{h h':AL}(g:Grew h h'):BN A h A h':=⟨g.le,fun b hb hl=>⟨g.old b hb,hl⟩⟩
theorem BN.to_grew{h h':AL}{A':AH}(k:BN [] h A' h'):Grew h h':=⟨k.1,fun b hb=>(k.2 b hb rfl).1⟩
theorem SubA.refl(A:AH):SubA A A:=fun _ _ h=>h
theorem SubA.none{A' A:AH}(hs:SubA A' A){b:Nat}(h:AA A b=none):AA A' b=none:=by
 cases hl:AA A' b with
 |none=>rfl
 |some o=>rw[hs b o hl]at h;cases h
theorem CQ.sub{A' A:AH}{h:AL}(hs:SubA A' A)(hA:CQ A h):CQ A' h:=fun b o hl=>hA b o (hs b o hl)
theorem BN.sub{A B B':AH}{h h':AL}(k:BN A h B h')(hs:SubA B' B):BN A h B' h':=⟨k.1,fun b hb hl=>⟨(k.2 b hb hl).1,hs.none (k.2 b hb hl).2⟩⟩
theorem Df(A:AH)(x:Nat)(u:Obj)(b:Nat):AA (Dw A x u) b=if b=x then(AA A b).map fun _=>u else AA A b:=by
 induction A with
 |nil=>simp[Dw,AA]
 | cons p A ih=>
  simp only[Dw]
  split
  ·rename_i e
   subst e
   simp only[AA]
   by_cases hb:p.1=b
   ·simp[hb]
   ·have: ¬b=p.1:=fun e=>hb e.symm
    simp[hb,this]
  ·rename_i e
   simp only[AA,ih]
   by_cases hb:p.1=b
   ·subst hb;simp[e]
   ·simp[hb]
theorem D7{o:Option Obj}{i n:Nat}{c:Array Value}(h:DW o i n=some c): ∃cs e fr,o=some (.cells cs e fr):=by
 unfold DW at h
 split at h
 ·exact⟨_,_,_,rfl⟩
 ·cases h
theorem Rv{o:Option Obj}{i:Nat}{v:Value}(h:Lh o i=some v): ∃cs e fr,o=some (.cells cs e fr):=by
 unfold Lh at h
 split at h
 ·exact⟨_,_,_,rfl⟩
 ·cases h
theorem KP{P:Program}{A:AH}{h:AL}(hs:CQ A h){t:TypeId}{a:Addr}{v:Value}(hr:Ew P A t a=some v):Jm P h t a=some v:=by
 obtain⟨b,off,spot⟩:=a
 unfold Ew tH at hr
 unfold Jm
 split at hr
 ·rename_i n hsh
  rw[hsh]
  simp only at hr⊢
  split at hr
  ·rename_i e
   subst e
   unfold Gp at hr
   split at hr
   ·rename_i c hc
    obtain⟨cs,e,fr,ho⟩:=D7 hc
    rw[MH,hs _ _ ho,←ho,hc]
    exact hr
   ·cases hr
  ·cases hr
 ·rename_i n hsh
  rw[hsh]
  simp only at hr⊢
  split at hr
  ·rename_i e
   subst e
   obtain⟨cs,e,fr,ho⟩:=Rv hr
   rw[Pt,hs _ _ ho,←ho]
   exact hr
  ·cases hr
 ·cases hr
theorem GA{P:Program}{A:AH}{h:AL}{ρ:Ak}(hs:CQ A h): ∀{rs:List ResultVar} {vs:List Value},F9 P ρ A rs=some vs→Jo P ρ h rs=some vs
 | [],vs,hr=>by simpa[F9,Jo]using hr
 | r::rs,vs,hr=>by
  simp only[F9]at hr
  simp only[Jo]
  have h1: ∀{v},MK P ρ A r=some v→O5 P ρ h r=some v:=by
   intro v hv
   cases r with
   |tmp t=>exact hv
   |cell s ty=>
    simp only[MK]at hv
    simp only[O5,qh]
    split at hv
    ·rename_i a ha;rw[ha];exact KP hs hv
    ·cases hv
  cases hr1:MK P ρ A r with
  |none=>simp[hr1,Dd]at hr
  | some v=>cases hl:F9 P ρ A rs with
   |none=>simp[hr1,hl,Dd]at hr
   |some us=>
    rw[h1 hr1,GA hs hl]
    simpa[hr1,hl]using hr
theorem AQ{α:Type}{o:Option α}{v:α}(h:o=some v)(K:α→Prop):AZ o K↔K v:=by subst h;exact Iff.rfl
theorem CX{c K:Prop}(h:c):Ay c K↔K:=⟨fun x=>x.2,fun x=>⟨h,x⟩⟩
theorem Yf{P:Program}{op:BinOp}{t:TypeId}{x y:Value}{K0:Value→Prop}(h:Bg P op t x y K0): ∃v,∀K:Value→Prop,Bg P op t x y K↔K v:=by
 unfold Bg at h
 split at h
 ·split at h
  all_goals first
   |(obtain⟨rfl,_⟩:=h;exact⟨_,fun K=>by simp only[Bg,Ay,true_and]⟩)
   |(obtain⟨⟨rfl,hb⟩,_⟩:=h;exact⟨_,fun K=>by simp only[Bg,Ay,true_and];exact⟨fun q=>q.2,fun q=>⟨hb,q⟩⟩⟩)
   |(obtain⟨hb,_⟩:=h;exact⟨_,fun K=>by simp only[Bg,Ay];exact⟨fun q=>q.2,fun q=>⟨hb,q⟩⟩⟩)
 ·split at h
  all_goals first
   |exact h.elim
   |(obtain⟨hb,_⟩:=h;exact⟨_,fun K=>by simp only[Bg,Ay];exact⟨fun q=>q.2,fun q=>⟨hb,q⟩⟩⟩)
   |exact⟨_,fun K=>Iff.rfl⟩
 ·rename_i n1 n2
  split at h
  ·obtain⟨h1,h2⟩:=h
   obtain⟨b,hb,_⟩:=AB h2
   refine⟨.bool b,fun K=> ?_⟩
   have e:Bg P .eql t x y K=Ay (Dn P t x y=true) (AZ (JC P 10000 t x y) fun b=>K (.bool b)):=by
    unfold Bg
    split
    ·exact(n1 _ _ _ _ rfl rfl).elim
    ·exact(n2 _ _ rfl rfl).elim
    ·rfl
   rw[e,CX h1,AQ hb]
  ·obtain⟨h1,h2⟩:=h
   obtain⟨b,hb,_⟩:=AB h2
   refine⟨.bool (!b),fun K=> ?_⟩
   have e:Bg P .neq t x y K=Ay (Dn P t x y=true) (AZ (JC P 10000 t x y) fun b=>K (.bool (!b))):=by
    unfold Bg
    split
    ·exact(n1 _ _ _ _ rfl rfl).elim
    ·exact(n2 _ _ rfl rfl).elim
    ·rfl
   rw[e,CX h1,AQ hb]
  ·exact h.elim
theorem aH{P:Program}{t:TypeId}{x i:Value}{K0:Value→Prop}(h:M3 P t x i K0): ∃v,∀K:Value→Prop,M3 P t x i K↔K v:=by
 unfold M3 at h
 split at h
 ·obtain⟨h1,h2⟩:=h
  obtain⟨b,hb,_⟩:=AB h2
  exact⟨_,fun K=>by simp only[M3];rw[CX h1,AQ hb]⟩
 ·split at h
  ·rename_i len e hu
   obtain⟨h1,h2⟩:=h
   obtain⟨s,hs,h2⟩:=AB h2
   obtain⟨v,hv,_⟩:=AB h2
   exact⟨v,fun K=>by simp only[M3,hu];rw[CX h1,AQ hs,AQ hv]⟩
  ·exact h.elim
 ·exact h.elim
theorem aR{P:Program}{t:TypeId}{x i:Value}{K0:Value→Prop}(h:Ku P t x i K0): ∃v,∀K:Value→Prop,Ku P t x i K↔K v:=by
 unfold Ku at h
 split at h
 ·obtain⟨e,he,h1⟩:=AB h
  exact⟨_,fun K=>by simp only[Ku];rw[AQ he,CX h1.1]⟩
 ·split at h
  ·rename_i len e hu
   obtain⟨s,hs,h1⟩:=AB h
   exact⟨_,fun K=>by simp only[Ku,hu];rw[AQ hs,CX h1.1]⟩
  ·exact h.elim
 ·exact h.elim
theorem j7{P:Program}{t:TypeId}{x:Value}{lo hi:Option Value}{K0:Value→Prop}(h:co P t x lo hi K0): ∃v,∀K:Value→Prop,co P t x lo hi K↔K v:=by
 unfold co at h
 split at h
 ·obtain⟨l,hl,h⟩:=AB h
  obtain⟨r,hr,h⟩:=AB h
  exact⟨_,fun K=>by simp only[co];rw[AQ hl,AQ hr,CX h.1]⟩
 ·obtain⟨e,he,h⟩:=AB h
  obtain⟨l,hl,h⟩:=AB h
  obtain⟨r,hr,h⟩:=AB h
  exact⟨_,fun K=>by simp only[co];rw[AQ he,AQ hl,AQ hr,CX h.1]⟩
 ·exact h.elim
theorem cp{P:Program}{t:TypeId}{x mx:Value}{lo hi:Option Value}{K0:Value→Prop}(h:NE P t x lo hi mx K0): ∃v,∀K:Value→Prop,NE P t x lo hi mx K↔K v:=by
 unfold NE at h
 split at h
 ·obtain⟨e,he,h⟩:=AB h
  obtain⟨l,hl,h⟩:=AB h
  obtain⟨r,hr,h⟩:=AB h
  obtain⟨m,hm,h⟩:=AB h
  exact⟨_,fun K=>by simp only[NE];rw[AQ he,AQ hl,AQ hr,AQ hm,CX h.1]⟩
 ·exact h.elim
theorem ke{P:Program}{op:Op}{ty:TypeId}{ρ:Ak}{h0:AL}{K0:Value→AL→Prop}(hq:KE P op=true)(hnc: ∀s d x,op≠ .convert s d x)(hp:HY P op ty ρ h0 K0):
  ∃v,∀(h:AL) (K:Value→AL→Prop),HY P op ty ρ h K↔K v h:=by
 unfold HY at hp
 split at hp
 ·obtain⟨v,hv,_⟩:=AB hp
  exact⟨v,fun h K=>by simp only[HY];rw[AQ hv]⟩
 ·obtain⟨v,hv,_⟩:=AB hp
  exact⟨v,fun h K=>by simp only[HY];rw[AQ hv]⟩
 ·obtain⟨v,hv,hp⟩:=AB hp
  unfold Pc at hp
  split at hp
  ·rename_i b
   cases b with
   |true=>
    obtain⟨u,hu,_⟩:=AB (hp.1 rfl)
    exact⟨u,fun h K=>by simp only[HY];rw[AQ hv];simp only[Pc,QQ];rw[AQ hu]⟩
   |false=>
    obtain⟨u,hu,_⟩:=AB (hp.2 rfl)
    exact⟨u,fun h K=>by simp only[HY];rw[AQ hv];simp only[Pc,Nf];rw[AQ hu]⟩
  ·exact hp.elim
 ·cases hq
 ·cases hq
 ·obtain⟨vs,hv,hp⟩:=AB hp
  obtain⟨v,hb,_⟩:=AB hp
  exact⟨v,fun h K=>by simp only[HY];rw[AQ hv,AQ hb]⟩
 ·cases hq
 ·cases hq
 ·cases hq
 ·obtain⟨p,hp1,hp⟩:=AB hp
  obtain⟨ad,ha,_⟩:=AB hp
  exact⟨p,fun h K=>by simp only[HY];rw[AQ hp1,AQ ha]⟩
 ·obtain⟨u,hu,hp⟩:=AB hp
  obtain⟨v,hv,hp⟩:=AB hp
  obtain⟨r,hr⟩:=Yf hp
  exact⟨r,fun h K=>by simp only[HY];rw[AQ hu,AQ hv,hr]⟩
 ·obtain⟨v,hv,hp⟩:=AB hp
  obtain⟨u,hu,_⟩:=AB hp
  exact⟨u,fun h K=>by simp only[HY];rw[AQ hv,AQ hu]⟩
 ·exact absurd rfl (hnc _ _ _)
 ·obtain⟨v,hv,hp⟩:=AB hp
  exact⟨_,fun h K=>by simp only[HY];rw[AQ hv,CX hp.1]⟩
 ·obtain⟨us,hu,hp⟩:=AB hp
  obtain⟨vs,hv,_⟩:=AB hp
  exact⟨_,fun h K=>by simp only[HY];rw[AQ hu,AQ hv]⟩
 ·cases hq
 ·cases hq
 ·obtain⟨v,hv,hp⟩:=AB hp
  obtain⟨l,hl,hp⟩:=AB hp
  obtain⟨r,hr,hp⟩:=AB hp
  obtain⟨u,hu⟩:=j7 hp
  exact⟨u,fun h K=>by simp only[HY];rw[AQ hv,AQ hl,AQ hr,hu]⟩
 ·obtain⟨v,hv,hp⟩:=AB hp
  obtain⟨l,hl,hp⟩:=AB hp
  obtain⟨r,hr,hp⟩:=AB hp
  obtain⟨mv,hm,hp⟩:=AB hp
  obtain⟨u,hu⟩:=cp hp
  exact⟨u,fun h K=>by simp only[HY];rw[AQ hv,AQ hl,AQ hr,AQ hm,hu]⟩
 ·obtain⟨p,hp1,hp⟩:=AB hp
  obtain⟨ad,ha,hp⟩:=AB hp
  obtain⟨f,hf,hp⟩:=AB hp
  exact⟨_,fun h K=>by simp only[HY];rw[AQ hp1,AQ ha,AQ hf,CX hp.1]⟩
 ·obtain⟨v,hv,hp⟩:=AB hp
  obtain⟨u,hu,_⟩:=AB hp
  exact⟨u,fun h K=>by simp only[HY];rw[AQ hv,AQ hu]⟩
 ·obtain⟨v,hv,hp⟩:=AB hp
  obtain⟨i,hi,hp⟩:=AB hp
  obtain⟨u,hu⟩:=aR hp
  exact⟨u,fun h K=>by simp only[HY];rw[AQ hv,AQ hi,hu]⟩
 ·obtain⟨v,hv,hp⟩:=AB hp
  obtain⟨i,hi,hp⟩:=AB hp
  obtain⟨u,hu⟩:=aH hp
  exact⟨u,fun h K=>by simp only[HY];rw[AQ hv,AQ hi,hu]⟩
 ·cases hq
 ·cases hq
 ·cases hq
 ·cases hq
 ·cases hq
 ·cases hq
 ·obtain⟨v,hv,hp⟩:=AB hp
  clear hp
  rename_i hp
  obtain⟨v,hv,hp⟩:=AB hp
  split at hp
  ·obtain⟨u,hu,_⟩:=AB hp
   exact⟨u,fun h K=>by simp only[HY];rw[AQ hv];simp only;rw[AQ hu]⟩
  ·exact hp.elim
 ·cases hq
 ·exact hp.elim
structure St(ν:Nu)(n:Nat)(A:AH)(h:AL):Prop where
 sat:CQ A h
 inj:OE ν
 old: ∀i,i<n→ν i<h.size
def Ca(ν:Nu)(n:Nat)(A:AH)(G:Nu→Prop):Prop:= ∀ν',OE ν'→(∀i,i<n→ν' i=ν i)→(∀i,n≤i→AA A (ν' i)=none)→G ν'
def nuAt(ν:Nu)(n N:Nat):Nu:=fun i=>if i<n then ν i else N+(i - n)
theorem St.nuAt{ν:Nu}{n:Nat}{A:AH}{h:AL}(s:St ν n A h):OE (nuAt ν n h.size):=by
 intro i j e
 unfold Vm.nuAt at e
 split at e<;>split at e
 ·exact s.inj _ _ e
 ·have:=s.old i ‹_›;omega
 ·have:=s.old j ‹_›;omega
 ·omega
theorem St.get{ν:Nu}{n:Nat}{A:AH}{h:AL}(s:St ν n A h){G:Nu→Prop}(f:Ca ν n A G):G (Vm.nuAt ν n h.size):=
 f _ s.nuAt (fun i hi=>by simp[Vm.nuAt,hi]) (fun i hi=>s.sat.none_of_size (by simp only[Vm.nuAt];rw[if_neg (by omega)];omega))
theorem Ca.mono{ν:Nu}{n:Nat}{A:AH}{G G':Nu→Prop}(f:Ca ν n A G)(hg: ∀ν',G ν'→G' ν'):Ca ν n A G':=fun ν' h1 h2 h3=>hg _ (f ν' h1 h2 h3)
theorem St.grew{ν:Nu}{n:Nat}{A:AH}{h h':AL}(s:St ν n A h)(g:Grew h h'):St ν n A h':=⟨s.sat.grew g,s.inj,fun i hi=>Nat.lt_of_lt_of_le (s.old i hi) g.le⟩
theorem St.start{A:AH}{h:AL}(hs:CQ A h):St (fun i=>h.size+i) 0 A h:=⟨hs,fun i j e=>by omega,fun i hi=>by omega⟩
theorem Ca.fresh{ν:Nu}{A:AH}{G:Nu→Prop}(hf: ∀ν',Bu ν' A→G ν'):Ca ν 0 A G:=fun ν' h1 _ h3=>hf ν' ⟨h1,fun i=>h3 i (Nat.zero_le _)⟩
theorem BN.push{A:AH}{h:AL}{o:Obj}:BN A h ((h.size,o)::A) (h.push o):=⟨by simp,fun b hb hl=>by
 refine⟨by simp[Array.getElem?_push,Nat.ne_of_lt hb], ?_⟩
 simp only[AA]
 rw[if_neg (by omega),hl]⟩
theorem CQ.push{A:AH}{h:AL}{o:Obj}(hs:CQ A h):CQ ((h.size,o)::A) (h.push o):=fun b o' hl=>by
 simp only[AA]at hl
 split at hl
 ·rename_i e;subst e;simpa using hl
 ·have:=hs.lt hl
  rw[Array.getElem?_push,if_neg (by omega)]
  exact hs b o' hl
theorem St.alloc{ν:Nu}{n:Nat}{A:AH}{h:AL}(s:St ν n A h)(o:Obj){G:Nu→Nat→Prop}(f:Ca ν n A fun ν'=>G ν' (ν' n)):
  ∃ν1,St ν1 (n+1) ((h.size,o)::A) (h.push o)∧Ca ν1 (n+1) ((h.size,o)::A) fun ν'=>G ν' h.size:=by
 refine⟨Vm.nuAt ν n h.size,⟨s.sat.push,s.nuAt,fun i hi=> ?_⟩,fun ν' h1 h2 h3=> ?_⟩
 ·unfold Vm.nuAt
  simp only[Array.size_push]
  split
  ·have:=s.old i ‹_›;omega
  ·omega
 ·have hn:ν' n=h.size:=by rw[h2 n (by omega)];simp[Vm.nuAt]
  have:G ν' (ν' n):=f ν' h1 (fun i hi=>by rw[h2 i (by omega)];simp[Vm.nuAt,hi]) (fun i hi=>by
   rcases Nat.eq_or_lt_of_le hi with rfl|hi
   ·rw[hn];exact s.sat.none_of_size (Nat.le_refl _)
   ·have:=h3 i (by omega)
    simp only[AA]at this
    split at this
    ·cases this
    ·exact this)
  show G ν' h.size
  rw[←hn]
  exact this
def Dx(K:Nu→Nat→Ak→AH→Prop)(A:AH)(h:AL)(ρ':Ak)(h':AL):Prop:= ∃ν1 n1 A1,St ν1 n1 A1 h'∧BN A h A1 h'∧Ca ν1 n1 A1 fun ν'=>K ν' n1 ρ' A1
def Dc(K:Nu→Nat→Value→AH→Prop)(A:AH)(h:AL)(v:Value)(h':AL):Prop:= ∃ν1 n1 A1,St ν1 n1 A1 h'∧BN A h A1 h'∧Ca ν1 n1 A1 fun ν'=>K ν' n1 v A1
theorem Dx.same{K:Nu→Nat→Ak→AH→Prop}{A:AH}{h:AL}{ρ':Ak}{ν:Nu}{n:Nat}(s:St ν n A h)(f:Ca ν n A fun ν'=>K ν' n ρ' A):Dx K A h ρ' h:=⟨ν,n,A,s,BN.refl _ _,f⟩
theorem Dc.same{K:Nu→Nat→Value→AH→Prop}{A:AH}{h:AL}{v:Value}{ν:Nu}{n:Nat}(s:St ν n A h)(f:Ca ν n A fun ν'=>K ν' n v A):Dc K A h v h:=⟨ν,n,A,s,BN.refl _ _,f⟩
theorem Dx.from{K:Nu→Nat→Ak→AH→Prop}{A B:AH}{h h1 h2:AL}{ρ':Ak}(k:BN A h B h1)(p:Dx K B h1 ρ' h2):Dx K A h ρ' h2:=by
 obtain⟨ν1,n1,A1,s,k1,f⟩:=p
 exact⟨ν1,n1,A1,s,k.trans k1,f⟩
theorem nP{nt:Nat}{dst:Option Nat}{ρ:Ak}{K:Nu→Nat→Ak→AH→Prop}{A:AH}{h h':AL}{v:Value}
  (p:Dc (fun ν n v A=>Ac nt dst v ρ fun ρ'=>K ν n ρ' A) A h v h'):Ac nt dst v ρ fun ρ'=>Dx K A h ρ' h':=by
 obtain⟨ν1,n1,A1,s,k,f⟩:=p
 cases dst with
 |none=>exact⟨ν1,n1,A1,s,k,f⟩
 |some d=>
  have h0:=s.get f
  exact⟨h0.1,ν1,n1,A1,s,k,f.mono fun ν' h1=>h1.2⟩
theorem JH.uniq{P:Program}{g:FuncId}{args:Array Value}{A:AH}{v u:Value}(h1:JH P g args A v)(h2:JH P g args A u):v=u:=by
 obtain⟨h,hs⟩:=CQ.ex A
 have r1:=h1.2 h hs
 have r2:=h2.2 h hs
 unfold Di at r1 r2
 by_cases hc:BR P g=true
 ·rw[if_pos hc]at r1 r2
  have hi:=h1.1 hc
  obtain⟨e1,w1,f1,⟨⟨rfl,_⟩,_⟩,⟨n1,s1⟩,hf1,l1⟩:=r1 {(default:World)with heap:=h} rfl []
  obtain⟨e2,w2,f2,⟨⟨rfl,_⟩,_⟩,⟨n2,s2⟩,hf2,l2⟩:=r2 {(default:World)with heap:=h} rfl []
  have d1:=step_leave_done l1 (by rw[hf1];exact hi)
  have d2:=step_leave_done l2 (by rw[hf2];exact hi)
  have hm:lone f1 [] w1=lone f2 [] w2:=by
   rcases Nat.le_total n1 n2 with hn|hn
   ·exact CH s1 s2 ⟨_,_,d1⟩ hn
   ·exact(CH s2 s1 ⟨_,_,d2⟩ hn).symm
  rw[hm,d2]at d1
  cases d1
  rfl
 ·rw[if_neg hc]at r1 r2
  obtain⟨v1,w1,e1,_,e2,_⟩:=r1 {(default:World)with heap:=h} rfl
  obtain⟨v2,w2,e3,_,e4,_⟩:=r2 {(default:World)with heap:=h} rfl
  rw[e1]at e3
  cases e2
  cases e4
  cases e3
  rfl
theorem AX{P:Program}{g:FuncId}{args:Array Value}{A:AH}{v:Value}(hp:JH P g args A v):Ag P g args A=some v:=by
 have H: ∃v,JH P g args A v:=⟨v,hp⟩
 unfold Ag
 rw[dif_pos H]
 exact congrArg some (H.choose_spec.uniq hp)
theorem Mf{P:Program}{g:FuncId}{args:Array Value}{A:AH}{v:Value}(hr:Ag P g args A=some v):JH P g args A v:=by
 unfold Ag at hr
 split at hr
 ·rename_i H
  have:=H.choose_spec
  cases hr
  exact this
 ·cases hr
theorem LX.uniq{P:Program}{s:Sem Value}{A:AH}{v u:Value}(h1:LX P s A v)(h2:LX P s A u):v=u:=by
 obtain⟨h,hs⟩:=CQ.ex A
 have e1:=h1 {(default:World)with heap:=h} hs
 have e2:=h2 {(default:World)with heap:=h} hs
 rw[e1]at e2
 cases e2
 rfl
theorem Jn{P:Program}{s:Sem Value}{A:AH}{v:Value}(hp:LX P s A v):Ex P s A=some v:=by
 have H: ∃v,LX P s A v:=⟨v,hp⟩
 unfold Ex
 rw[dif_pos H]
 exact congrArg some (H.choose_spec.uniq hp)
theorem KQ{P:Program}{s:Sem Value}{A:AH}{v:Value}(hr:Ex P s A=some v):LX P s A v:=by
 unfold Ex at hr
 split at hr
 ·rename_i H
  have:=H.choose_spec
  cases hr
  exact this
 ·cases hr
theorem CJ.mono{P:Program}{s:Sem Value}{h:AL}{K K':Value→AL→Prop}(hr:CJ P s h K)(hk: ∀v h',K v h'→K' v h'):CJ P s h K':=fun w hw=>
 let ⟨v,w',h1,h2,h3⟩:=hr w hw
 ⟨v,w',h1,h2,hk _ _ h3⟩
theorem K8{P:Program}{s:Sem Value}{A:AH}{ν:Nu}{n:Nat}{h:AL}{K:Nu→Nat→Value→AH→Prop}(st:St ν n A h)(f:Ca ν n A fun ν'=>Dz P s A ν' n K):CJ P s h fun v h'=>Dc K A h v h':=by
 refine(st.get f h st.sat).mono ?_
 rintro u h' ⟨A',hs,hk,hK⟩
 exact⟨_,0,A',St.start hs,hk,Ca.fresh hK⟩
theorem Ty{P:Program}{s:Sem Value}{A:AH}{ν:Nu}{n:Nat}{h:AL}{K:Nu→Nat→Value→AH→Prop}(st:St ν n A h)(f:Ca ν n A fun ν'=>JJ P s A ν' n K):CJ P s h fun v h'=>Dc K A h v h':=by
 obtain⟨v,hv,_⟩:=AB (st.get f)
 intro w hw
 subst hw
 exact⟨v,w,KQ hv w st.sat,⟨rfl,rfl,rfl⟩,Dc.same st (f.mono fun ν' h1=>(AQ hv _).1 h1)⟩
theorem Di.mono{P:Program}{g:FuncId}{args:Array Value}{h:AL}{R R':Ending→AL→Prop}(hc:Di P g args h R)(hr: ∀e h',R e h'→R' e h'):Di P g args h R':=by
 unfold Di at hc⊢
 split
 ·rw[if_pos ‹_›]at hc
  exact hc.mono0 hr
 ·rw[if_neg ‹_›]at hc
  intro w hw
  obtain⟨v,w',h1,h2,h3⟩:=hc w hw
  exact⟨v,w',h1,h2,hr _ _ h3⟩
def DR:Frame:={(default:Frame)with todo:=[.extern "" #[],.code (.refuse "")],defers:=[{target:=.nil,args:= #[]}],mode:=.run}
theorem NZ(P:Program)(v:Value)(w:World): ∃o,step P (lone (DR.finish v) [] w)=.ended o w:=
 ⟨_,step_lone_ended (by simp[stepG,DR,Frame.finish];rfl)⟩
theorem WC(P:Program)(ch:List PanicEntry)(w:World): ∃o,step P (lone (DR.raise ch) [] w)=.ended o w:=
 ⟨_,step_lone_ended (by simp[stepG,DR,Frame.raise,unwind,callDeferred];rfl)⟩
theorem WK{P:Program}{f:FuncId}{args:Array Value}{h:AL}{p:Value×AL}{R:Ending→AL→Prop}(hx:Tw P f args h p)(hc:CallsH P f args h R)(h1: ∀h',¬R .outgrown h'):R (.returned p.1) p.2:=by
 obtain⟨hi,hx⟩:=hx
 obtain⟨e1,w1,f1,⟨⟨rfl,hw1⟩,_⟩,⟨n1,s1⟩,hf1,l1⟩:=hx {(default:World)with heap:=h} rfl [DR]
 obtain⟨e2,w2,f2,⟨hR,_⟩,s2,hf2,l2⟩:=hc {(default:World)with heap:=h} rfl [DR]
 have a1:=step_leave_returned (c:=DR) (cs:=[]) l1
 have b1:runN P (n1+1) (lone (Frame.enter P f args .normal) [DR] {(default:World)with heap:=h})=.next (lone (DR.finish p.1) [] w1):=by
  rw[runN_add,s1];simp[runN,a1]
 obtain⟨o1,d1⟩:=NZ P p.1 w1
 cases e2 with
 |outgrown=>exact absurd hR (h1 _)
 | panicked ch=>
  obtain⟨n2,s2⟩:=s2
  have a2:=step_leave_panicked (c:=DR) (cs:=[]) l2
  have b2:runN P (n2+1) (lone (Frame.enter P f args .normal) [DR] {(default:World)with heap:=h})=.next (lone (DR.raise ch) [] w2):=by
   rw[runN_add,s2];simp[runN,a2]
  obtain⟨o2,d2⟩:=WC P ch w2
  have hm:lone (DR.finish p.1) [] w1=lone (DR.raise ch) [] w2:=by
   rcases Nat.le_total (n1+1) (n2+1)with hn|hn
   ·exact CH b1 b2 ⟨_,_,d1⟩ hn
   ·exact(CH b2 b1 ⟨_,_,d2⟩ hn).symm
  simp[lone,DR,Frame.finish,Frame.raise]at hm
 | returned v=>
  obtain⟨n2,s2⟩:=s2
  have a2:=step_leave_returned (c:=DR) (cs:=[]) l2
  have b2:runN P (n2+1) (lone (Frame.enter P f args .normal) [DR] {(default:World)with heap:=h})=.next (lone (DR.finish v) [] w2):=by
   rw[runN_add,s2];simp[runN,a2]
  obtain⟨o2,d2⟩:=NZ P v w2
  have hm:lone (DR.finish p.1) [] w1=lone (DR.finish v) [] w2:=by
   rcases Nat.le_total (n1+1) (n2+1)with hn|hn
   ·exact CH b1 b2 ⟨_,_,d1⟩ hn
   ·exact(CH b2 b1 ⟨_,_,d2⟩ hn).symm
  simp[lone,DR,Frame.finish]at hm
  obtain⟨q1,q2⟩:=hm
  rw[←hw1]
  first
   |(rw[q1,q2];exact hR)
   |(rw[q2,q1];exact hR)
theorem CallsH.monoP{P:Program}{f:FuncId}{args:Array Value}{h:AL}{R R':Ending→AL→Prop}(hc:CallsH P f args h R)(hr: ∀e h',R e h'→R' e h')(h1: ∀h',¬R .outgrown h'):Ap P f args h R':=by
 unfold Ap
 split
 ·rename_i p hp
  unfold JU at hp
  split at hp
  ·rename_i H
   cases hp
   exact hr _ _ (WK H.choose_spec hc h1)
  ·cases hp
 ·exact hc.mono0 hr
def Gc(X:Xp)(A:AH)(h:AL)(ch:List PanicEntry)(h':AL):Prop:= ∃X0 A',X=some X0∧CQ A' h'∧BN A h A' h'∧X0 ch A'
theorem Gc.from{X:Xp}{A B:AH}{h h1 h2:AL}{ch:List PanicEntry}(k:BN A h B h1)(p:Gc X B h1 ch h2):Gc X A h ch h2:=by
 obtain⟨X0,A',h3,s,k1,f⟩:=p
 exact⟨X0,A',h3,s,k.trans k1,f⟩
theorem Qx{X:Xp}{A:AH}{h h':AL}{K:Value→AH→Prop}{e:Ending}(hr:Gl A h K e h'):TD X A h K e h':=by
 cases X with
 |none=>exact hr
 |some X=>exact .inl hr
theorem Jp{X:Xp}{A:AH}{h h':AL}{K:Value→AH→Prop}{ch:List PanicEntry}(hp:Gc X A h ch h'):TD X A h K (.panicked ch) h':=by
 obtain⟨X0,A',rfl,s,k,f⟩:=hp
 exact .inr ⟨ch,A',rfl,s,k,f⟩
theorem eS{P:Program}{imp:Imp}{g:FuncId}{args:Array Value}{A:AH}{ν:Nu}{n:Nat}{h:AL}{K:Nu→Nat→Value→AH→Prop}(st:St ν n A h)(f:Ca ν n A fun ν'=>Re P imp g args A ν' n K):
  Di P g args h fun e h'=>(∃v,e=.returned v∧Dc K A h v h')∨ ∃ch,e=.panicked ch∧Gc imp.X A h ch h':=by
 have h0:=st.get f
 unfold Re at h0
 by_cases hi:g∈imp.l
 ·rw[if_pos hi]at h0
  unfold JM at h0
  split at h0
  ·refine(h0 h st.sat).mono ?_
   rintro e h' ⟨u,A',rfl,hs,hk,hK⟩
   exact .inl ⟨u,rfl,_,0,A',St.start hs,hk,Ca.fresh hK⟩
  ·rename_i X0 hX
   refine(h0 h st.sat).mono ?_
   rintro e h' (⟨u,A',rfl,hs,hk,hK⟩|⟨ch,A',rfl,hs,hk,hK⟩)
   ·exact .inl ⟨u,rfl,_,0,A',St.start hs,hk,Ca.fresh hK⟩
   ·exact .inr ⟨ch,rfl,X0,A',hX,hs,hk,hK⟩
 ·rw[if_neg hi]at h0
  obtain⟨v,hv,_⟩:=AB h0
  refine((Mf hv).2 h st.sat).mono ?_
  rintro u h' ⟨rfl,hg⟩
  refine .inl ⟨v,rfl,ν,n,A,st.grew hg,BN.grew hg,f.mono fun ν' h1=> ?_⟩
  unfold Re at h1
  rw[if_neg hi]at h1
  exact(AQ hv _).1 h1
theorem ou{A A':AH}{h:AL}{a:Addr}{vs:List Value}{ν:Nu}{n:Nat}(st:St ν n A h)(hw:pO A a vs=some A'): ∃h',GX h a vs=some h'∧St ν n A' h'∧BN A h A' h'∧ ∀b,AA A' b=none↔AA A b=none:=by
 obtain⟨b,off,spot⟩:=a
 unfold pO at hw
 split at hw
 ·rename_i e
  simp only at e
  subst e
  unfold kS at hw
  simp only at hw
  split at hw
  ·rename_i c e fr ho
   split at hw
   ·rename_i hc
    cases hw
    have hb:=st.sat _ _ ho
    have hlt:=st.sat.lt ho
    refine⟨h.setIfInBounds b (.cells (By c off vs) e fr), ?_,⟨?_,st.inj,fun i hi=>by simpa using st.old i hi⟩,⟨by simp,fun b' hb' hl=> ?_⟩,fun b'=> ?_⟩
    ·rw[Mk,hb]
     simp only[sH]
     rw[if_pos hc]
    ·intro b' o' hl
     rw[Df]at hl
     rw[Array.getElem?_setIfInBounds]
     by_cases hbb:b'=b
     ·subst hbb
      rw[if_pos rfl,ho]at hl
      simp only[Option.map_some,Option.some.injEq]at hl
      subst hl
      simp[hlt]
     ·rw[if_neg hbb]at hl
      rw[if_neg (fun e=>hbb e.symm)]
      exact st.sat _ _ hl
    ·have hbb:b'≠b:=fun e=>by subst e;rw[ho]at hl;cases hl
     rw[Df,if_neg hbb,Array.getElem?_setIfInBounds,if_neg (fun e=>hbb e.symm)]
     exact⟨rfl,hl⟩
    ·rw[Df]
     by_cases hbb:b'=b
     ·subst hbb;simp[ho]
     ·simp[hbb]
   ·cases hw
  ·cases hw
 ·cases hw
end Go.Vm
namespace Go.Vm
theorem QX{P:Program}{t:TypeId}{x:Value}{A:AH}{K0:Value→Prop}(h0:HT P t x A K0): ∃v,(∀K,HT P t x A K↔K v)∧ ∀h K,CQ A h→(G4 P t x h K↔K v):=by
 have main: ∀x:Value,(∀r,x≠ .map (some r))→G4 P t x #[] K0→ ∃v,∀h (K:Value→Prop),G4 P t x h K↔K v:=by
  intro x hx h0
  unfold G4 at h0
  split at h0
  ·obtain⟨hu,_⟩:=h0
   exact⟨_,fun h K=>CX hu⟩
  ·obtain⟨s,hs,_⟩:=AB h0
   exact⟨_,fun h K=>AQ hs _⟩
  ·split at h0
   ·rename_i hu
    exact⟨.int .i64 0,fun h K=>by simp only[G4,hu]⟩
   ·exact h0.elim
  ·exact(hx _ rfl).elim
  ·exact h0.elim
 by_cases hx: ∃r,x=.map (some r)
 ·obtain⟨r,rfl⟩:=hx
  unfold HT mm QY at h0
  simp only at h0
  split at h0
  ·rename_i a b es c hu ho
   refine⟨.int .i64 es.size,fun K=>by simp only[HT,mm,hu,ho,QY],fun h K hs=> ?_⟩
   rw[UW,hu,hs _ _ ho]
   exact Iff.rfl
  ·exact h0.elim
 ·have hx': ∀r,x≠ .map (some r):=fun r e=>hx ⟨r,e⟩
  have e: ∀K,HT P t x A K=G4 P t x #[] K:=by
   intro K
   unfold HT
   split
   ·exact(hx' _ rfl).elim
   ·rfl
  rw[e]at h0
  obtain⟨v,hv⟩:=main x hx' h0
  exact⟨v,fun K=>by rw[e];exact hv _ K,fun h K _=>hv h K⟩
theorem fY{P:Program}{s d:TypeId}{x:Value}{A:AH}{ν:Nu}{n:Nat}{h:AL}{K:Nu→Nat→Value→AH→Prop}{K':Value→AL→Prop}(st:St ν n A h)
  (f:Ca ν n A fun ν'=>Hk P s d (P.underlying s) (P.underlying d) x A ν' n K) (hK: ∀v h',Dc K A h v h'→K' v h'):P1 P s d x h K':=by
 have h0:=st.get f
 unfold P1
 split
 ·rename_i h1 h2
  rw[h1,h2]at h0
  simp only[h1,h2]at f
  cases x<;>first|exact h0.elim|exact hK _ _ (Dc.same st f)
 ·rename_i h1 h2
  rw[h1,h2]at h0
  simp only[h1,h2]at f
  cases x<;>first|exact h0.elim|exact hK _ _ (Dc.same st f)
 ·rename_i h1 h2
  rw[h1,h2]at h0
  simp only[h1,h2]at f
  cases x<;>first|exact h0.elim|exact hK _ _ (Dc.same st f)
 ·rename_i h1 h2 h3
  have e:(∀ν',Hk P s d (P.underlying s) (P.underlying d) x A ν' n K=Dz P (convert s d x) A ν' n K)∨(∀ν',Hk P s d (P.underlying s) (P.underlying d) x A ν' n K=JJ P (convert s d x) A ν' n K):=by
   generalize P.underlying s=us at*
   generalize P.underlying d=ud at*
   by_cases hr:(∃e,us=some (.slice e))∧ud=some .string
   ·obtain⟨⟨e,rfl⟩,rfl⟩:=hr
    exact .inr fun ν'=>rfl
   ·refine .inl fun ν'=> ?_
    unfold Hk
    split
    ·exact(h1 _ _ rfl rfl).elim
    ·exact(h2 _ rfl rfl).elim
    ·exact(h3 rfl rfl).elim
    ·exact(hr ⟨⟨_,rfl⟩,rfl⟩).elim
    ·rfl
  rcases e with e|e
  ·exact(K8 st (f.mono fun ν' h1=>(e ν'▸h1))).mono hK
  ·exact(Ty st (f.mono fun ν' h1=>(e ν'▸h1))).mono hK
theorem XQ{P:Program}{t:TypeId}{x:Value}{A:AH}{ν:Nu}{n:Nat}{h:AL}{K:Nu→Nat→Value→AH→Prop}(st:St ν n A h)(f:Ca ν n A fun ν'=>KO P t x A ν' n K):CJ P (Instr.range t x) h fun v h'=>Dc K A h v h':=by
 by_cases hx: ∃s,x=.string s
 ·obtain⟨s,rfl⟩:=hx
  have h0:=st.get f
  obtain⟨ν1,s1,f1⟩:=st.alloc (.stringIter s 0) (G:=fun ν' b=>K ν' (n+1) (.pointer (some ⟨b,0,none⟩)) ((b,.stringIter s 0)::A)) (f.mono fun ν' h1=>h1.2)
  exact EN h0.1 ⟨ν1,n+1,_,s1,BN.push,f1⟩
 ·have e: ∀ν',KO P t x A ν' n K=Dz P (Instr.range t x) A ν' n K:=by
   intro ν'
   unfold KO
   split
   ·exact(hx ⟨_,rfl⟩).elim
   ·rfl
  exact K8 st (f.mono fun ν' h1=>(e ν'▸h1))
theorem ao{P:Program}{x:Value}{b:Bool}{ty:TypeId}{A:AH}{ν:Nu}{n:Nat}{h:AL}{K:Nu→Nat→Value→AH→Prop}(st:St ν n A h)(f:Ca ν n A fun ν'=>Nr P x b ty A ν' n K):CJ P (Instr.next x b ty) h fun v h'=>Dc K A h v h':=by
 by_cases hx: ∃r,x=.pointer (some ⟨r,0,none⟩)∧b=true
 ·obtain⟨r,rfl,rfl⟩:=hx
  have f1:Ca ν n A fun ν'=>L6 r (AA A r) A ν' n K:=f
  have h0:=st.get f1
  unfold L6 at h0 f1
  cases ho:AA A r with
  |none=>rw[ho]at h0;exact h0.elim
  | some o=>
   cases o with
   | stringIter s pos=>
    rw[ho]at f1
    refine DB (st.sat r _ ho) ?_
    split
    ·rename_i hp
     have f2:Ca ν n A fun ν'=>K ν' n (.tuple #[.bool true,.int .i64 pos,.int .i32 (Utf8.decode s pos).1]) (Dw A r (.stringIter s (pos+(Utf8.decode s pos).2))):=f1.mono fun ν' h1=>h1.1 (by simpa using hp)
     have hnone: ∀b' u,AA (Dw A r u) b'=none↔AA A b'=none:=by
      intro b' u
      rw[Df]
      by_cases hbb:b'=r
      ·subst hbb;simp[ho]
      ·simp[hbb]
     refine⟨ν,n,_,⟨?_,st.inj,fun i hi=>by simpa using st.old i hi⟩,⟨by simp,fun b' hb' hl=> ?_⟩,fun ν' h1 h2 h3=>f2 ν' h1 h2 fun i hi=>(hnone _ _).1 (h3 i hi)⟩
     ·intro b' o' hl
      rw[Df]at hl
      rw[Array.getElem?_setIfInBounds]
      by_cases hbb:b'=r
      ·subst hbb
       rw[if_pos rfl,ho]at hl
       simp only[Option.map_some,Option.some.injEq]at hl
       subst hl
       have:=st.sat.lt ho
       simp[this]
      ·rw[if_neg hbb]at hl
       rw[if_neg (fun e=>hbb e.symm)]
       exact st.sat _ _ hl
     ·have hbb:b'≠r:=fun e=>by subst e;rw[ho]at hl;cases hl
      rw[Array.getElem?_setIfInBounds,if_neg (fun e=>hbb e.symm)]
      exact⟨rfl,(hnone _ _).2 hl⟩
    ·rename_i hp
     exact Dc.same st (f1.mono fun ν' h1=>h1.2 (by simpa using hp))
   |_=>rw[ho]at h0;exact h0.elim
 ·have e: ∀ν',Nr P x b ty A ν' n K=Dz P (Instr.next x b ty) A ν' n K:=by
   intro ν'
   unfold Nr
   split
   ·exact(hx ⟨_,rfl,rfl⟩).elim
   ·rfl
  exact K8 st (f.mono fun ν' h1=>(e ν'▸h1))
section
variable {P:Program} {imp:Imp} {nt:Nat} {ν:Nu} {n:Nat} {ρ:Ak} {A:AH} {h:AL} {K:Nu→Nat→Ak→AH→Prop} {X:List PanicEntry→AL→Prop} {K':Ak→AL→Prop}
theorem XN{dst:Option Nat}{v:Value}{K K':Ak→Prop}(h:Ac nt dst v ρ K)(hk: ∀ρ',K ρ'→K' ρ'):Ac nt dst v ρ K':=by
 cases dst with
 |none=>exact hk _ h
 |some d=>exact⟨h.1,hk _ h.2⟩
theorem FX{dst:Option Nat}{h':AL}{v:Value}(hK: ∀ρ' h',Dx K A h ρ' h'→K' ρ' h')(p:Dc (fun ν n v A=>Ac nt dst v ρ fun ρ'=>K ν n ρ' A) A h v h'):Ac nt dst v ρ fun ρ'=>K' ρ' h':=
 XN (nP p) fun ρ' h1=>hK _ _ h1
theorem BL{α:Type}{o:Option α}{v:α}(hv:o=some v){G:Nu→α→Prop}(f:Ca ν n A fun ν'=>AZ o (G ν')):Ca ν n A fun ν'=>G ν' v:=f.mono fun ν' h1=>(AQ hv _).1 h1
theorem Fb{s:Sem Value}{dst:Option Nat}(hK: ∀ρ' h',Dx K A h ρ' h'→K' ρ' h')(st:St ν n A h)(f:Ca ν n A fun ν'=>Dz P s A ν' n fun ν n u A=>Ac nt dst u ρ fun ρ'=>K ν n ρ' A):CJ P s h fun v h'=>Ac nt dst v ρ fun ρ'=>K' ρ' h':=
 (K8 st f).mono fun v h' p=>FX hK p
theorem Jq{s:Sem Value}{dst:Option Nat}(hK: ∀ρ' h',Dx K A h ρ' h'→K' ρ' h')(st:St ν n A h)(f:Ca ν n A fun ν'=>JJ P s A ν' n fun ν n u A=>Ac nt dst u ρ fun ρ'=>K ν n ρ' A):CJ P s h fun v h'=>Ac nt dst v ρ fun ρ'=>K' ρ' h':=
 (Ty st f).mono fun v h' p=>FX hK p
theorem HB{o:Obj}{dst:Option Nat}{V:Nat→Value}(hK: ∀ρ' h',Dx K A h ρ' h'→K' ρ' h')(st:St ν n A h)(f:Ca ν n A fun ν'=>Ac nt dst (V (ν' n)) ρ fun ρ'=>K ν' (n+1) ρ' ((ν' n,o)::A)):Ac nt dst (V h.size) ρ fun ρ'=>K' ρ' (h.push o):=by
 obtain⟨ν1,s1,f1⟩:=st.alloc o (G:=fun ν' b=>Ac nt dst (V b) ρ fun ρ'=>K ν' (n+1) ρ' ((b,o)::A)) f
 exact FX hK ⟨ν1,n+1,_,s1,BN.push,f1⟩
theorem HA{o:Oper}(hX: ∀ch h',Gc imp.X A h ch h'→X ch h')(hK: ∀ρ' h',Dx K A h ρ' h'→K' ρ' h')(st:St ν n A h)(f:Ca ν n A fun ν'=>BC P imp nt o ν' n ρ A K):Am P nt o ρ h K' X:=by
 obtain⟨dst,op,ty,pos,aft,gd⟩:=o
 have h0:=st.get f
 unfold BC at h0
 split at h0
 ·
  rename_i g args ts hop
  simp only at hop
  subst hop
  obtain⟨fv,hf,h0⟩:=AB h0
  obtain⟨vs,hv,h0⟩:=AB h0
  have f1:Ca ν n A fun ν'=>NS P imp fv vs A ν' n fun ν n v A=>Ac nt dst v ρ fun ρ'=>K ν n ρ' A:=BL hv (BL hf f)
  unfold NS at h0
  split at h0
  ·rename_i g fs cs _
   have hc:=eS st (K:=fun ν n v A=>Ac nt dst v ρ fun ρ'=>K ν n ρ' A) f1
   refine(AQ hf _).2 ((AQ hv _).2 ?_)
   show if BR P g=true then _ else _
   unfold Di at hc
   by_cases hcl:BR P g=true
   ·rw[if_pos hcl]at hc⊢
    refine CallsH.monoP hc ?_ (fun h' hx=>by rcases hx with⟨_,hx,_⟩|⟨_,hx,_⟩<;>cases hx)
    rintro _ h' (⟨v,rfl,p⟩|⟨ch,rfl,p⟩)
    ·exact FX hK p
    ·exact hX _ _ p
   ·rw[if_neg hcl]at hc⊢
    intro w hw
    obtain⟨v,w',h1,h2,⟨u,hu,p⟩|⟨ch,hu,_⟩⟩:=hc w hw
    ·cases hu
     exact⟨v,w',h1,h2,FX hK p⟩
    ·cases hu
  ·exact h0.elim
 ·rename_i t x hop
  simp only at hop
  subst hop
  obtain⟨p,hp,h0⟩:=AB h0
  obtain⟨a,ha,h0⟩:=AB h0
  obtain⟨v,hv,h0⟩:=AB h0
  exact(AQ hp _).2 ((AQ ha _).2 ((AQ (KP st.sat hv) _).2 (FX hK (Dc.same st (BL hv (BL ha (BL hp f)))))))
 ·rename_i t x y hop
  simp only at hop
  subst hop
  obtain⟨p,hp,h0⟩:=AB h0
  obtain⟨a,ha,h0⟩:=AB h0
  obtain⟨v,hv,h0⟩:=AB h0
  obtain⟨s,hs,h0⟩:=AB h0
  obtain⟨hz,h0⟩:=h0
  obtain⟨A',hw,h0⟩:=AB h0
  obtain⟨h',hw',st',kp,hnone⟩:=ou st hw
  have f1:=BL hs (BL hv (BL ha (BL hp f)))
  have f2:Ca ν n A fun ν'=>Ac nt dst undef ρ fun ρ'=>K ν' n ρ' A':=f1.mono fun ν' h1=>(AQ hw _).1 h1.2
  have f3:Ca ν n A' fun ν'=>Ac nt dst undef ρ fun ρ'=>K ν' n ρ' A':=fun ν' h1 h2 h3=>f2 ν' h1 h2 fun i hi=>(hnone _).1 (h3 i hi)
  exact(AQ hp _).2 ((AQ ha _).2 ((AQ hv _).2 ((AQ hs _).2 ⟨hz,(AQ hw' _).2 (FX hK ⟨ν,n,A',st',kp,f3⟩)⟩)))
 ·rename_i e hop
  simp only at hop
  subst hop
  obtain⟨z,hz,h0⟩:=AB h0
  exact(AQ hz _).2 (HB (V:=fun b=>.pointer (some ⟨b,0,none⟩)) hK st (BL hz f))
 ·rename_i e x hop
  simp only at hop
  subst hop
  obtain⟨z,hz,h0⟩:=AB h0
  exact(AQ hz _).2 (HB (V:=fun b=>.pointer (some ⟨b,0,none⟩)) hK st (BL hz f))
 ·rename_i t m ps hop
  simp only at hop
  subst hop
  obtain⟨vs,hv,h0⟩:=AB h0
  obtain⟨r,hr,h0⟩:=AB h0
  exact(AQ hv _).2 ((AQ hr _).2 (HB (V:=fun b=>.slice (some ⟨b,0,none⟩) m m) hK st (BL hr (BL hv f))))
 ·rename_i t hop
  simp only at hop
  subst hop
  exact HB (V:=fun b=>.map (some b)) hK st f
 ·rename_i s d x hop
  simp only at hop
  subst hop
  obtain⟨v,hv,h0⟩:=AB h0
  exact(AQ hv _).2 (fY (K:=fun ν n u A=>Ac nt dst u ρ fun ρ'=>K ν n ρ' A) st (BL hv f) fun v h' p=>FX hK p)
 ·rename_i t l c hop
  simp only at hop
  subst hop
  obtain⟨u,hu,h0⟩:=AB h0
  obtain⟨v,hv,h0⟩:=AB h0
  exact(AQ hu _).2 ((AQ hv _).2 (Fb hK st (BL hv (BL hu f))))
 ·rename_i t x i ok hop
  simp only at hop
  subst hop
  obtain⟨u,hu,h0⟩:=AB h0
  obtain⟨v,hv,h0⟩:=AB h0
  exact(AQ hu _).2 ((AQ hv _).2 (Jq hK st (BL hv (BL hu f))))
 ·rename_i t x i y hop
  simp only at hop
  subst hop
  obtain⟨u,hu,h0⟩:=AB h0
  obtain⟨v,hv,h0⟩:=AB h0
  obtain⟨q,hq,h0⟩:=AB h0
  exact(AQ hu _).2 ((AQ hv _).2 ((AQ hq _).2 (Fb hK st (BL hq (BL hv (BL hu f))))))
 ·rename_i t x i y hop
  simp only at hop
  subst hop
  obtain⟨u,hu,h0⟩:=AB h0
  obtain⟨v,hv,h0⟩:=AB h0
  obtain⟨q,hq,h0⟩:=AB h0
  exact(AQ hu _).2 ((AQ hv _).2 ((AQ hq _).2 (Fb hK st (BL hq (BL hv (BL hu f))))))
 ·rename_i t x hop
  simp only at hop
  subst hop
  obtain⟨u,hu,h0⟩:=AB h0
  exact(AQ hu _).2 ((XQ (K:=fun ν n u A=>Ac nt dst u ρ fun ρ'=>K ν n ρ' A) st (BL hu f)).mono fun v h' p=>FX hK p)
 ·rename_i x s hop
  simp only at hop
  subst hop
  obtain⟨u,hu,h0⟩:=AB h0
  exact(AQ hu _).2 ((ao (K:=fun ν n u A=>Ac nt dst u ρ fun ρ'=>K ν n ρ' A) st (BL hu f)).mono fun v h' p=>FX hK p)
 ·rename_i x t a ok hop
  simp only at hop
  subst hop
  obtain⟨u,hu,h0⟩:=AB h0
  exact(AQ hu _).2 (Jq hK st (BL hu f))
 ·rename_i b args ts hop
  simp only at hop
  subst hop
  obtain⟨vs,hv,h0⟩:=AB h0
  have f1:=BL hv f
  refine(AQ hv _).2 ?_
  split at h0
  ·rename_i v t hts _
   obtain⟨u,h1,h2⟩:=QX h0
   simp only[hts]
   refine(h2 h (fun u=>Ac nt dst u ρ fun ρ'=>K' ρ' h) st.sat).2 (FX hK (Dc.same st (f1.mono fun ν' h3=> ?_)))
   simp only[hts]at h3
   exact(h1 _).1 h3
  ·exact Fb hK st f1
  ·exact Jq hK st f1
  ·exact Fb hK st f1
  ·exact Fb hK st f1
  ·exact Fb hK st f1
  ·exact Jq hK st f1
  ·exact Fb hK st f1
  ·exact FX hK (Dc.same st f1)
  ·exact FX hK (Dc.same st f1)
  ·exact h0.elim
 ·rename_i x hop
  simp only at hop
  subst hop
  obtain⟨v,hv,h0⟩:=AB h0
  unfold qt at h0
  split at h0
  ·rename_i X0 t u hx
   exact(AQ hv _).2 (hX _ _ ⟨X0,A,hx,st.sat,BN.refl _ _,h0⟩)
  ·exact h0.elim
 ·rename_i n1 n2 n3 n4 n5 n6 n7 n8 n9 n10 n11 n12 n13 n14 n15 n16 n17
  simp only at n1 n2 n3 n4 n5 n6 n7 n8 n9 n10 n11 n12 n13 n14 n15 n16 n17
  obtain⟨hfr,h0⟩:=h0
  have e: ∀ν',BC P imp nt ⟨dst,op,ty,pos,aft,gd⟩ ν' n ρ A K=Ay (KE P op=true) (Am P nt ⟨dst,op,ty,pos,aft,gd⟩ ρ #[] (fun ρ' _=>K ν' n ρ' A) fun _ _=>False):=by
   intro ν'
   unfold BC
   split
   all_goals first|rfl|(rename_i hop;simp only at hop;subst hop;first|(cases hfr;done)|exact(n8 _ _ _ rfl).elim)
  have f1:=f.mono fun ν' h1=>(e ν'▸h1).2
  have hcall: ∀c,op≠ .call c:=fun c hc=>by subst hc;cases hfr
  have hpan: ∀x,op≠ .panic x:=fun c hc=>by subst hc;cases hfr
  have ew: ∀(h:AL) (K:Ak→AL→Prop) (X:List PanicEntry→AL→Prop),Am P nt ⟨dst,op,ty,pos,aft,gd⟩ ρ h K X=HY P op ty ρ h fun v h'=>Ac nt dst v ρ fun ρ'=>K ρ' h':=by
   intro h K X
   unfold Am
   split
   ·exact absurd ‹_› (hcall _)
   ·exact absurd ‹_› (hpan _)
   ·rfl
  rw[ew]at h0⊢
  obtain⟨v,hv⟩:=ke hfr n8 h0
  refine(hv h _).2 (FX hK (Dc.same st (f1.mono fun ν' h1=> ?_)))
  rw[ew]at h1
  exact(hv #[] _).1 h1
theorem Dx.same'{ρ':Ak}(st:St ν n A h)(f:Ca ν n A fun ν'=>K ν' n ρ' A):Dx K A h ρ' h:=⟨ν,n,A,st,BN.refl _ _,f⟩
theorem Ln{all:List Oper}: ∀(m:Nat) (cur:Option (Nat×Bool)) (l:List Oper) (ρ:Ak) (A:AH) (n:Nat) (ν:Nu) (h:AL) (K:Nu→Nat→Ak→AH→Prop) (K':Ak→AL→Prop),
  (∀ch h',Gc imp.X A h ch h'→X ch h')→(∀ρ' h',Dx K A h ρ' h'→K' ρ' h')→St ν n A h→Ca ν n A (fun ν'=>At P imp nt all m cur l ν' n ρ A K)→BK P nt all m cur l ρ h K' X:=by
 intro m
 induction m with
 |zero=>intro cur l ρ A n ν h K K' hX hK st f;exact(st.get f).elim
 | succ m ih=>
  intro cur l ρ A n ν h K K' hX hK st f
  cases l with
  |nil=>exact hK _ _ (Dx.same' st f)
  | cons o l=>
   have h0:=st.get f
   unfold At at h0
   unfold BK
   by_cases hg:o.guard=cur
   ·rw[if_pos hg]
    have f1:Ca ν n A fun ν'=>BC P imp nt o ν' n ρ A fun ν n ρ' A=>At P imp nt all m cur l ν n ρ' A K:=f.mono fun ν' h1=>by
     unfold At at h1;rw[if_pos hg]at h1;exact h1
    refine HA hX (fun ρ1 h1 p=> ?_) st f1
    obtain⟨ν1,n1,A1,st1,kp,f1⟩:=p
    exact ih cur l ρ1 A1 n1 ν1 h1 K K' (fun ch h' p=>hX _ _ (p.from kp)) (fun ρ' h' p=>hK _ _ (p.from kp)) st1 f1
   ·rw [if_neg hg]at h0⊢
    split at h0
    ·exact h0.elim
    ·rename_i j want hgd
     obtain⟨s,hs,h0⟩:=AB h0
     obtain⟨v,hv,h0⟩:=AB h0
     cases v with
     | bool b=>
      obtain⟨hok,h0⟩:=h0
      have f1:Ca ν n A fun ν'=>(match Dy (A7 cur (o::l)),BQ cur (o::l)with
        |true,p::after=>match Bv want s p.op with
         |some y=>At P imp nt all m (some (j,want)) (A7 cur (o::l)) ν' n ρ A fun ν n ρ' A=>AZ (Aa ρ' y) fun c=>CO nt p.dst want b c (Ck (A7 cur (o::l)) ρ) fun ρ''=>At P imp nt all m cur after ν n ρ'' A K
         |none=>False
        |_,after=>KJ (b==want) (At P imp nt all m (some (j,want)) (A7 cur (o::l)) ν' n ((s,some (.bool want))::ρ) A fun ν n ρ' A=>At P imp nt all m cur after ν n ρ' A K) (At P imp nt all m cur after ν' n (Ck (A7 cur (o::l)) ((s,some (.bool (!want)))::ρ)) A K)):=f.mono fun ν' h1=>by
       unfold At at h1
       rw[if_neg hg,hgd]at h1
       simp only at h1
       exact((AQ hv _).1 ((AQ hs _).1 h1)).2
      rw[hgd]
      refine(AQ hs _).2 ((AQ hv _).2 ⟨hok, ?_⟩)
      generalize hgr:A7 cur (o::l)=g at*
      generalize haf:BQ cur (o::l)=aft at*
      cases hpu:Dy g with
      | true=>
       cases aft with
       | cons p after=>
        simp only[hpu]at f1 h0⊢
        cases hy:Bv want s p.op with
        |none=>simp only[hy]at h0
        | some y=>
         simp only[hy]at f1⊢
         refine ih _ _ _ _ _ _ _ _ _ hX (fun ρ1 h1 p1=> ?_) st f1
         obtain⟨ν1,n1,A1,st1,kp,f2⟩:=p1
         obtain⟨c,hc,_⟩:=AB (st1.get f2)
         have f3:=BL hc f2
         refine(AQ hc _).2 ?_
         have h3:=st1.get f3
         unfold CO at h3 f3⊢
         cases c with
         | bool c=>
          simp only at h3 f3⊢
          cases hd:p.dst with
          |none=>
           rw[hd]at f3
           exact ih _ _ _ _ _ _ _ _ _ (fun ch h' q=>hX _ _ (q.from kp)) (fun ρ' h' q=>hK _ _ (q.from kp)) st1 f3
          |some d=>
           rw[hd]at f3 h3
           exact⟨h3.1,ih _ _ _ _ _ _ _ _ _ (fun ch h' q=>hX _ _ (q.from kp)) (fun ρ' h' q=>hK _ _ (q.from kp)) st1 (f3.mono fun ν' q=>q.2)⟩
         |_=>exact h3.elim
       | nil=>
        simp only[hpu]at f1 h0⊢
        refine⟨fun q=> ?_,fun q=> ?_⟩
        ·refine ih _ _ _ _ _ _ _ _ _ hX (fun ρ1 h1 p1=> ?_) st (f1.mono fun ν' h1=>h1.1 q)
         obtain⟨ν1,n1,A1,st1,kp,f2⟩:=p1
         exact ih _ _ _ _ _ _ _ _ _ (fun ch h' q=>hX _ _ (q.from kp)) (fun ρ' h' q=>hK _ _ (q.from kp)) st1 f2
        ·exact ih _ _ _ _ _ _ _ _ _ hX hK st (f1.mono fun ν' h1=>h1.2 q)
      | false=>
       simp only[hpu]at f1 h0⊢
       refine⟨fun q=> ?_,fun q=> ?_⟩
       ·refine ih _ _ _ _ _ _ _ _ _ hX (fun ρ1 h1 p1=> ?_) st (f1.mono fun ν' h1=>h1.1 q)
        obtain⟨ν1,n1,A1,st1,kp,f2⟩:=p1
        exact ih _ _ _ _ _ _ _ _ _ (fun ch h' q=>hX _ _ (q.from kp)) (fun ρ' h' q=>hK _ _ (q.from kp)) st1 f2
       ·exact ih _ _ _ _ _ _ _ _ _ hX hK st (f1.mono fun ν' h1=>h1.2 q)
     |_=>exact h0.elim
end
end Go.Vm
namespace Go.Vm
def LV(A:AH)(C:World→Prop):Prop:= ∀w,C w→CQ A w.heap∧ ∀w',Grew w.heap w'.heap→Ai w w'→C w'
section
variable {P:Program} {n:Nat} {all:List Oper} {A:AH} {w0:World} {C:World→Prop}
theorem D9[dd:DefD]{o:Oper}{ρ:Ak}{K0:Ak→Prop}(hs:BF P n o ρ A K0): ∃v,(∀K,BF P n o ρ A K↔Ac n o.dst v ρ K)∧ ∀(C:World→Prop) (a:Act),BO n ρ a→LV A C→ ∀w,C w→o.quietAt P a C w v:=by
 obtain⟨dst,op,ty,pos,aft,gd⟩:=o
 have hs0:=hs
 unfold BF at hs
 split at hs
 ·rename_i f args ts hop
  simp only at hop
  subst hop
  obtain⟨fv,hf,hs⟩:=AB hs
  obtain⟨vs,hv,hs⟩:=AB hs
  cases fv with
  | func fn fs cs=>
   cases fn with
   | func g=>
    obtain⟨hc,hs⟩:=hs
    obtain⟨v,hval,hput⟩:=AB hs
    refine⟨v,fun K=>(AQ hf _).trans ((AQ hv _).trans ((CX hc).trans (AQ hval _))),fun C a hk hC w hw=> ?_⟩
    have hrun:(execOp a.eval ⟨dst,.call ⟨.value f,args,ts⟩,ty,pos,aft,gd⟩).run P w=.ok (.enter g (fs++vs.toArray++cs)) w:=by
     simp only[execOp,resolve,AN hk hf,Deferred.ofValue,Sem.run_bind,Sem.run_pure,Result.andThen_ok,invoke,Cw hk hv]
     exact CF hc
    unfold Oper.quietAt
    rw[hrun]
    have hp:=(Mf hval).2 w.heap (hC w hw).1
    unfold Di at hp
    rw[if_pos hc]at hp
    exact⟨rfl,(hp w rfl).mono fun e w' ⟨⟨h1,h2⟩,h3⟩=>⟨h1,(hC w hw).2 w' h2 h3⟩⟩
   |_=>exact hs.elim
  |_=>exact hs.elim
 ·rename_i t x hop
  simp only at hop
  subst hop
  obtain⟨p,hp,hs⟩:=AB hs
  obtain⟨ad,ha,hs⟩:=AB hs
  obtain⟨v,hv,hput⟩:=AB hs
  refine⟨v,fun K=>(AQ hp _).trans ((AQ ha _).trans (AQ hv _)),fun C a hk hC w hw=> ?_⟩
  have:=Cp ha
  subst this
  unfold Oper.quietAt
  simp[execOp,Instr.loadAt,Instr.sureAddr,AN hk hp,FZ rfl (KP (hC w hw).1 hv),Oper.quietUpon]
 ·rename_i s d x hop
  simp only at hop
  subst hop
  obtain⟨u,hu,hs⟩:=AB hs
  have e1: ∀K,BF P n ⟨dst,.convert s d x,ty,pos,aft,gd⟩ ρ A K↔JO P s d (P.underlying s) (P.underlying d) u A fun u=>Ac n dst u ρ K:=fun K=>AQ hu _
  by_cases hud: ∃ds k',P.underlying s=some ds∧P.underlying d=some (.int k')
  ·obtain⟨ds,k',h1,h2⟩:=hud
   rw[h1,h2]at hs
   cases u with
   |int k m=>exact⟨.int k' (k'.wrap m),fun K=>(e1 K).trans (by rw[h1,h2];cases ds<;>exact Iff.rfl),fun C a hk hC w hw=>by unfold Oper.quietAt;simp[execOp,AN hk hu,convert,underlying,h1,h2,Conv.intToInt,Oper.quietUpon]⟩
   |_=>cases ds<;>exact hs.elim
  ·have e2: ∀K:Value→Prop,JO P s d (P.underlying s) (P.underlying d) u A K↔AZ (Ex P (convert s d u) A) K:=by
    intro K
    generalize P.underlying s=us at*
    generalize P.underlying d=ud at*
    unfold JO
    split
    ·exact(hud ⟨_,_,rfl,rfl⟩).elim
    ·exact Iff.rfl
   obtain⟨v,hv,hput⟩:=AB ((e2 _).1 hs)
   refine⟨v,fun K=>(e1 K).trans ((e2 _).trans (AQ hv _)),fun C a hk hC w hw=> ?_⟩
   unfold Oper.quietAt
   simp[execOp,AN hk hu,KQ hv w (hC w hw).1,Oper.quietUpon]
 ·rename_i t x i ok hop
  simp only at hop
  subst hop
  obtain⟨u,hu,hs⟩:=AB hs
  obtain⟨u2,hu2,hs⟩:=AB hs
  obtain⟨v,hv,hput⟩:=AB hs
  refine⟨v,fun K=>(AQ hu _).trans ((AQ hu2 _).trans (AQ hv _)),fun C a hk hC w hw=> ?_⟩
  unfold Oper.quietAt
  simp[execOp,AN hk hu,AN hk hu2,KQ hv w (hC w hw).1,Oper.quietUpon]
 ·rename_i b args ts hop
  simp only at hop
  subst hop
  obtain⟨vs,hv,hs⟩:=AB hs
  have key: ∀(x:Value) (t:TypeId),b=.len→vs=[x]→ts.toList=[t]→(∃K1,HT P t x A K1)→ ∃v,(∀K,BF P n ⟨dst,.call ⟨.builtin b,args,ts⟩,ty,pos,aft,gd⟩ ρ A K↔Ac n dst v ρ K)∧ ∀(C:World→Prop) (a:Act),BO n ρ a→LV A C→ ∀w,C w→(⟨dst,.call ⟨.builtin b,args,ts⟩,ty,pos,aft,gd⟩:Oper).quietAt P a C w v:=by
   rintro x t rfl rfl hts ⟨K1,hs⟩
   obtain⟨v,h1,h2⟩:=QX hs
   have hts':ts= #[t]:=by apply Array.ext';simpa using hts
   subst hts'
   refine⟨v,fun K=>(AQ hv _).trans (h1 _),fun C a hk hC w hw=> ?_⟩
   have hlen:G4 P t x w.heap fun u=>u=v:=(h2 w.heap _ (hC w hw).1).2 rfl
   obtain⟨u,hu,rfl⟩:=Hr (P:=P) (ty:=ty) hlen
   unfold Oper.quietAt
   simp[execOp,resolve,invoke,builtin,Cw hk hv,hu w rfl,Oper.quietUpon]
  split at hs
  ·rename_i x t hts _
   exact key x t rfl rfl hts ⟨_,hs⟩
  ·exact hs.elim
 ·rename_i n1 n2 n3 n4 n5
  simp only at n1 n2 n3 n4 n5
  obtain⟨hfr,hs⟩:=hs
  obtain⟨v,hv⟩:=ke hfr n3 hs
  have e: ∀K,BF P n ⟨dst,op,ty,pos,aft,gd⟩ ρ A K=Ay (KE P op=true) (HY P op ty ρ #[] fun v _=>Ac n dst v ρ K):=by
   intro K
   unfold BF
   split
   all_goals first|rfl|(rename_i hop;simp only at hop;subst hop;first|(cases hfr;done)|exact(n3 _ _ _ rfl).elim)
  refine⟨v,fun K=>by rw[e];exact(CX hfr).trans (hv _ _),fun C a hk hC w hw=> ?_⟩
  have hq:Jl P op=true:=by
   unfold KE at hfr
   split at hfr
   ·cases hfr
   ·cases hfr
   ·exact hfr
  obtain⟨u,hu,he⟩:=KM (n:=n) (dst:=dst) (pos:=pos) (aft:=aft) (gd:=gd) hq ((hv w.heap fun u _=>u=v).2 rfl)
  subst he
  unfold Oper.quietAt
  rw[hu a w hk rfl]
  exact⟨rfl,rfl⟩
theorem Mb[dd:DefD]{o:Oper}{ρ:Ak}{K:Ak→Prop}(hs:BF P n o ρ A K): ∃v,Ac n o.dst v ρ K∧ ∀(a:Act),BO n ρ a→LV A C→ ∀w,C w→o.quietAt P a C w v:=by
 obtain⟨v,h1,h2⟩:=D9 hs
 exact⟨v,(h1 K).1 hs,h2 C⟩
theorem PN[dd:DefD](hC:LV A C){o:Oper}{ρ:Ak}{K:Ak→Prop}{a:Act}{next:Act→Prop}(hs:BF P n o ρ A K)(hk:BO n ρ a)
  (hn: ∀ρ' a',K ρ'→BO n ρ' a'→(∀t,o.dst≠some t→get ρ' t=get ρ t)→next a'):o.quiet P a C next:=by
 obtain⟨v,hput,hv⟩:=Mb (C:=C) hs
 obtain⟨ρ',hK,hk',he⟩:=Dq hk hput
 exact⟨v,fun w hw=>hv a hk hC w hw,hn ρ' _ hK hk' he⟩
theorem Ko[dd:DefD]{s j:Nat}{want b:Bool}{C:World→Prop}{Q:Act→Prop}(hj:Bq all j=some s)(hb:b≠want){rest':List Oper}: ∀(l:List Oper) (sk:List Nat) (ρ:Ak) (a:Act),Br all s j want sk l=true→BO n ρ a→
  a.tmps[s]? =some (.bool b)→(∀s'∈sk,a.tmps[s']? =some undef∨a.tmps[s']? =none)→(∀a',BO n (Ck l ρ) a'→a'.tmps[s]? =some (.bool b)→wpQuiet P all.toArray C Q rest' a')→wpQuiet P all.toArray C Q (l++rest') a:=by
 intro l
 induction l with
 |nil=>intro sk ρ a _ hk hs _ hn;exact hn a hk hs
 | cons x l ih=>
  intro sk ρ a h hk hs hsk hn
  unfold Br at h
  split at h
  ·rename_i d j' w' hd hg
   split at h
   ·cases h
   ·rename_i hds
    have hput:BO n ((d,none)::ρ) (a.put x.dst undef):=by rw[hd];exact hk.hide d undef
    have hs':(a.put x.dst undef).tmps[s]? =some (.bool b):=by
     rw[hd];simp only[Act.put,Array.getElem?_setIfInBounds];rw[if_neg hds];exact hs
    have hsk': ∀s'∈d::sk,(a.put x.dst undef).tmps[s']? =some undef∨(a.put x.dst undef).tmps[s']? =none:=by
     intro s' hm
     rw[hd];simp only[Act.put,Array.getElem?_setIfInBounds]
     rcases List.mem_cons.1 hm with rfl|hm
     ·simp only[if_true];split<;>simp
     ·split
      ·split<;>simp
      ·exact hsk s' hm
    have hhid:Ck (x::l) ρ=Ck l ((d,none)::ρ):=by simp[Ck,hd]
    rw[hhid]at hn
    have go:Region.wanted x (yielded all.toArray a.tmps)=false→Br all s j want (d::sk) l=true→wpQuiet P all.toArray C Q (x::l++rest') a:=by
     intro hw hok
     show wpQuiet P all.toArray C Q (x::(l++rest')) a
     unfold wpQuiet
     rw[if_neg (by simp[hw])]
     exact ih (d::sk) _ _ hok hput hs' hsk' hn
    split at h
    ·rename_i hjw
     obtain⟨rfl,rfl⟩:=hjw
     refine go ?_ h
     unfold Region.wanted
     simp only[hg,B9 hj,hs]
     simpa using hb
    ·split at h
     ·rename_i s' hs2
      split at h
      ·rename_i hm
       refine go ?_ h
       unfold Region.wanted
       rcases hsk s' hm with e|e
       ·simp only[hg,B9 hs2,e,undef];rfl
       ·simp only[hg,B9 hs2,e];rfl
      ·cases h
     ·cases h
  ·cases h
theorem R7[dd:DefD]{sp:Bool}: ∀(m:Nat) (cur:Option (Nat×Bool)) (l:List Oper) (ρ:Ak) (K:Ak→Prop),BJ P n sp all A m cur l ρ K→ ∃ρ',K ρ':=by
 intro m
 induction m with
 |zero=>intro cur l ρ K hd;cases hd
 | succ m ih=>
  intro cur l ρ K hd
  have put: ∀{dst:Option Nat} {v:Value} {ρ:Ak} {K:Ak→Prop},Ac n dst v ρ K→ ∃ρ',K ρ':=by
   intro dst v ρ K hv
   cases dst with
   |none=>exact⟨ρ,hv⟩
   |some d=>exact⟨_,hv.2⟩
  cases l with
  |nil=>exact⟨ρ,hd⟩
  | cons o l=>
   unfold BJ at hd
   split at hd
   ·obtain⟨v,h1,_⟩:=Mb (C:=fun _=>False) hd
    obtain⟨ρ',h1⟩:=put h1
    exact ih _ _ _ _ h1
   ·split at hd
    ·exact hd.elim
    ·rename_i j want hg
     obtain⟨s,hs,hd'⟩:=AB hd
     clear hd
     obtain⟨v,hv,hd⟩:=AB hd'
     clear hd'
     split at hd
     ·rename_i b
      obtain⟨_,hd⟩:=hd
      split at hd
      ·split at hd
       ·obtain⟨ρ1,h1⟩:=ih _ _ _ _ hd
        obtain⟨c,_,h1⟩:=AB h1
        unfold CO at h1
        split at h1
        ·obtain⟨ρ',h1⟩:=put h1
         exact ih _ _ _ _ h1
        ·exact h1.elim
       ·exact hd.elim
      ·by_cases hb:(b==want)=true
       ·obtain⟨ρ1,h1⟩:=ih _ _ _ _ (hd.1 hb)
        exact ih _ _ _ _ h1
       ·exact ih _ _ _ _ (hd.2 (by simpa using hb))
     ·exact hd.elim
set_option maxHeartbeats 1000000 in
theorem Kd[dd:DefD]{sp:Bool}{Q:Act→Prop}(hC:LV A C): ∀(m:Nat) (cur:Option (Nat×Bool)) (rest:List Oper) (ρ:Ak) (K:Ak→Prop) (a:Act) (rest':List Oper),
  BJ P n sp all A m cur rest ρ K→BO n ρ a→Fs all ρ cur rest→
  (∀ρ' a',K ρ'→BO n ρ' a'→YG rest ρ ρ'→wpQuiet P all.toArray C Q rest' a')→wpQuiet P all.toArray C Q (rest++rest') a:=by
 intro m
 induction m with
 |zero=>intro cur rest ρ K a rest' hd;cases hd
 | succ m ih=>
  intro cur rest ρ K a rest' hd hk hc hn
  cases rest with
  |nil=>exact hn ρ a hd hk (fun t _=>rfl)
  | cons o l=>
   unfold BJ at hd
   split at hd
   ·rename_i hg
    have hw:=EZ hk hc hg
    show wpQuiet P all.toArray C Q (o::(l++rest')) a
    unfold wpQuiet
    rw[if_pos hw]
    refine PN hC hd hk fun ρ' a' h1 h2 h4=> ?_
    refine ih cur l ρ' K a' rest' h1 h2 ?_ fun ρ'' a'' k1 k2 k4=>hn ρ'' a'' k1 k2 fun t ht=> ?_
    ·cases cur with
     |none=>trivial
     |some c=>
      obtain⟨j,want⟩:=c
      obtain⟨s,e1,e2,e3⟩:=hc
      exact⟨s,e1,by rw[h4 s (e3 o (List.mem_cons_self ..)),e2],fun x hx=>e3 x (List.mem_cons_of_mem _ hx)⟩
    ·rw[k4 t (fun x hx=>ht x (List.mem_cons_of_mem _ hx)),h4 t (ht o (List.mem_cons_self ..))]
   ·rename_i hg
    split at hd
    ·exact hd.elim
    ·rename_i j want hgd
     obtain⟨s,hs,hd'⟩:=AB hd
     clear hd
     obtain⟨v,hv,hd⟩:=AB hd'
     clear hd'
     split at hd
     ·rename_i b
      obtain⟨hok,hd⟩:=hd
      have hsp:=F4 cur (o::l)
      generalize hgr:A7 cur (o::l)=g at*
      generalize haf:BQ cur (o::l)=after at*
      have hdst:=KF _ _ hok
      have hgl: ∀x∈g,x∈o::l:=fun x hx=>by rw[←hsp];exact List.mem_append_left _ hx
      have hal: ∀x∈after,x∈o::l:=fun x hx=>by rw[←hsp];exact List.mem_append_right _ hx
      rw[←hsp,List.append_assoc]
      have hcurE: ∀{ρ1:Ak},YG g ρ ρ1→Fs all ρ1 cur after:=by
       intro ρ1 he
       cases cur with
       |none=>trivial
       |some c=>
        obtain⟨j',want'⟩:=c
        obtain⟨s',e1,e2,e3⟩:=hc
        exact⟨s',e1,by rw[he s' (fun x hx=>e3 x (hgl x hx)),e2],fun x hx=>e3 x (hal x hx)⟩
      have hskip: ∀{rest2:List Oper},b≠want→(∀a',BO n (Ck g ρ) a'→a'.tmps[s]? =some (.bool b)→wpQuiet P all.toArray C Q rest2 a')→wpQuiet P all.toArray C Q (g++rest2) a:=
       fun hb h2=>Ko hs hb g [] ρ a hok hk (hk.2.2 s _ hv) (fun s' hs'=>by cases hs') h2
      split at hd
      ·rename_i p after' hpu
       split at hd
       ·rename_i y hy
        have hpin: ∀x,x∈(p::after')→x∈o::l:=fun x hx=>hal x hx
        have fin: ∀(a':Act) (c:Bool),Ac n p.dst (.bool c) (Ck g ρ) (fun ρ''=>BJ P n sp all A m cur after' ρ'' K)→BO n (Ck g ρ) a'→
          wpQuiet P all.toArray C Q (after'++rest') (a'.put p.dst (.bool c)):=by
         intro a' c h1 h2
         obtain⟨ρ',h4,h5,h6⟩:=Dq h2 h1
         have he: ∀t,(∀x∈o::l,x.dst≠some t)→get ρ' t=get ρ t:=fun t ht=>by
          rw[h6 t (ht p (hpin p (List.mem_cons_self ..))),ER g ρ (fun x hx=>ht x (hgl x hx))]
         refine ih cur after' ρ' K _ rest' h4 h5 ?_ fun ρ'' a'' k1 k2 k4=>hn ρ'' a'' k1 k2 fun t ht=> ?_
         ·cases cur with
          |none=>trivial
          |some c=>
           obtain⟨j',want'⟩:=c
           obtain⟨s',e1,e2,e3⟩:=hc
           exact⟨s',e1,by rw[he s' (fun x hx=>e3 x hx),e2],fun x hx=>e3 x (hpin x (List.mem_cons_of_mem _ hx))⟩
         ·rw[k4 t (fun x hx=>ht x (hpin x (List.mem_cons_of_mem _ hx))),he t ht]
        have hpw: ∀(ρ1:Ak) (a':Act),BO n ρ1 a'→Fs all ρ1 cur (p::after')→Region.wanted p (yielded all.toArray a'.tmps)=true:=by
         intro ρ1 a' h1 h2
         refine EZ h1 h2 ?_
         have: ∀(l:List Oper),BQ cur l=p::after'→p.guard=cur:=by
          intro l
          induction l with
          |nil=>intro h;simp[BQ]at h
          |cons x l ihl=>
           intro h
           unfold BQ at h
           split at h
           ·rename_i hx;simp at h;rw[←h.1];exact hx
           ·exact ihl h
         exact this _ haf
        have pickQ: ∀(a':Act) (c':Bool),a'.eval (.tmp s)=.bool b→(b=want→a'.eval y=.bool c')→wpQuiet P all.toArray C Q (after'++rest') (a'.put p.dst (.bool (C2 want b c')))→p.quiet P a' C (wpQuiet P all.toArray C Q (after'++rest')):=by
         intro a' c' hcond hyv hnext
         refine⟨.bool (C2 want b c'),fun w _=> ?_,hnext⟩
         have hrun:(execOp a'.eval p).run P w=.ok (.value (.bool (C2 want b c'))) w:=by
          rcases GE hy with⟨e,hop⟩|⟨e,hop⟩
          ·subst e
           cases b with
           |false=>simp[execOp,hop,hcond,hyv rfl,asBool,C2]
           |true=>simp[execOp,hop,asBool,C2,Act.eval];simp[Act.eval]at hcond;simp[hcond]
          ·subst e
           cases b with
           |true=>simp[execOp,hop,hcond,hyv rfl,asBool,C2]
           |false=>simp[execOp,hop,asBool,C2,Act.eval];simp[Act.eval]at hcond;simp[hcond]
         unfold Oper.quietAt
         rw[hrun]
         exact⟨rfl,rfl⟩
        by_cases hb:b=want
        ·refine ih (some (j,want)) g ρ _ a ((p::after')++rest') hd hk ⟨s,hs,by rw[hv,hb],hdst⟩ fun ρ1 a' k1 k2 k4=> ?_
         obtain⟨c,hc1,k1⟩:=AB k1
         unfold CO at k1
         split at k1
         ·rename_i c'
          have hOk:BO n (Ck g ρ) a':=⟨k2.1,k2.2.1,fun t u ht=>by
           obtain⟨h1,h2⟩:=SL _ _ ht
           exact k2.2.2 t u (by rw[k4 t h1];exact h2)⟩
          show wpQuiet P all.toArray C Q (p::(after'++rest')) a'
          unfold wpQuiet
          rw[if_pos (hpw ρ1 a' k2 (hcurE k4))]
          exact pickQ a' c' (AN k2 (by simp only[Aa];rw[k4 s hdst];exact hv)) (fun _=>AN k2 hc1) (fin a' _ k1 hOk)
         ·exact k1.elim
        ·obtain⟨ρ1,h1⟩:=R7 m _ g ρ _ hd
         obtain⟨c,hc1,h1⟩:=AB h1
         unfold CO at h1
         split at h1
         ·rename_i c'
          refine hskip hb fun a' h2 h3=> ?_
          show wpQuiet P all.toArray C Q (p::(after'++rest')) a'
          unfold wpQuiet
          have hch:Fs all (Ck g ρ) cur (p::after'):=hcurE (fun t ht=>ER g ρ ht)
          rw[if_pos (hpw _ a' h2 hch)]
          have hcond:a'.eval (.tmp s)=.bool b:=by
           simp only[Act.eval];rw[Array.getD_eq_getD_getElem?,h3];rfl
          exact pickQ a' c' hcond (fun e=>absurd e hb) (fin a' _ h1 h2)
         ·exact h1.elim
       ·exact hd.elim
      ·rename_i after _ _ _
       by_cases hb:b=want
       ·subst hb
        refine ih (some (j,b)) g ((s,some (.bool b))::ρ) _ a (after++rest') (hd.1 (by simp)) (hk.again hv) ⟨s,hs,(Cz hv s).trans hv,hdst⟩ fun ρ1 a' k1 k2 k4=> ?_
        replace k4:YG g ρ ρ1:=fun t ht=>(k4 t ht).trans (Cz hv t)
        refine ih cur after ρ1 K a' rest' k1 k2 (hcurE k4) fun ρ'' a'' q1 q2 q4=>hn ρ'' a'' q1 q2 fun t ht=> ?_
        rw[q4 t (fun x hx=>ht x (hal x hx)),k4 t (fun x hx=>ht x (hgl x hx))]
       ·have hbw:(!want)=b:=by cases b<;>cases want<;>simp at hb⊢
        have hd2:=hd.2 (by simpa using hb)
        rw[hbw]at hd2
        refine Ko hs hb g [] ((s,some (.bool b))::ρ) a hok (hk.again hv) (hk.2.2 s _ hv) (fun s' hs'=>by cases hs') fun a' h2 h3=> ?_
        have he:YG g ρ (Ck g ((s,some (.bool b))::ρ)):=fun t ht=>(ER g _ ht).trans (Cz hv t)
        refine ih cur after (Ck g ((s,some (.bool b))::ρ)) K a' rest' hd2 h2 (hcurE he) fun ρ'' a'' q1 q2 q4=>hn ρ'' a'' q1 q2 fun t ht=> ?_
        rw[q4 t (fun x hx=>ht x (hal x hx)),he t (fun x hx=>ht x (hgl x hx))]
     ·exact hd.elim
end
end Go.Vm
