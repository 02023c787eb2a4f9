/-
A second evaluator, over the blocks that are known ('AH'): fresh blocks bear names drawn from a supply, calls of functions that change nothing leave what is known as it is. Its meaning is the first evaluator's, run from every heap that fits.
Conditions: none. Generic: it speaks of no program.
-/
import Derived.Test.YtfphceknmgadgaaGreatDoorVmMap
set_option linter.unusedSimpArgs false
set_option linter.unusedVariables false
namespace Go.Vm
abbrev Nu:=Nat→Nat
abbrev AH:=List (Nat×Obj)
def AA:AH→Nat→Option Obj
 | [],_=>none
 |(b,o)::A,x=>if b=x then some o else AA A x
def Fy:AH→Nat→Obj→AH
 | [],_,_=>[]
 |(b,o)::A,x,u=>if b=x then(b,u)::A else(b,o)::Fy A x u
def DO(A:AH)(h:AY):Prop:= ∀b o,AA A b=some o→h[b]? =some o
def Ca(A:AH)(h:AY)(A':AH)(h':AY):Prop:=h.size≤h'.size∧ ∀b,b<h.size→AA A b=none→h'[b]? =h[b]? ∧AA A' b=none
def Pp(ν:Nu):Prop:= ∀i j,ν i=ν j→i=j
def DN(ν:Nu)(A:AH):Prop:=Pp ν∧ ∀i,AA A (ν i)=none
def HU(A:AH)(h:AY)(K:Value→AH→Prop)(e:Ending)(h':AY):Prop:= ∃v A',e=.returned v∧DO A' h'∧Ca A h A' h'∧K v A'
def E4(P:Program)(g:FuncId)(args:Array Value)(h:AY)(R:Ending→AY→Prop):Prop:=if AD P g=true then CallsH P g args h R else bx P g args h R
def AM(P:Program)(g:FuncId)(args:Array Value)(A:AH)(K:Value→AH→Prop):Prop:= ∀h,DO A h→E4 P g args h (HU A h K)
def cC(A:AH)(h:AY)(X:List PanicEntry→AH→Prop)(K:Value→AH→Prop)(e:Ending)(h':AY):Prop:=HU A h K e h'∨ ∃ch A',e=.panicked ch∧DO A' h'∧Ca A h A' h'∧X ch A'
abbrev Xp:=Option (List PanicEntry→AH→Prop)
def Z0(X:Xp)(A:AH)(h:AY)(K:Value→AH→Prop):Ending→AY→Prop:=match X with|none=>HU A h K|some X=>cC A h X K
def AZ(P:Program)(g:FuncId)(args:Array Value)(A:AH)(X:List PanicEntry→AH→Prop)(K:Value→AH→Prop):Prop:= ∀h,DO A h→E4 P g args h (cC A h X K)
def JF(X:Xp)(P:Program)(g:FuncId)(args:Array Value)(A:AH)(K:Value→AH→Prop):Prop:=match X with|none=>AM P g args A K|some X=>AZ P g args A X K
def pt(X:Xp)(v:Value)(A:AH):Prop:=match X,v with
 |some X,.iface t u=>X [{v:=.iface t u,recovered:=false}] A
 |_,_=>False
structure Imp where
 l:List Nat
 X:Xp
def JT(P:Program)(g:FuncId)(args:Array Value)(A:AH)(v:Value):Prop:=(AD P g=true→P.inits.idxOf? g=none)∧ ∀h,DO A h→E4 P g args h fun e h'=>e=.returned v∧Grew h h'
open Classical in
noncomputable def B5(P:Program)(g:FuncId)(args:Array Value)(A:AH):Option Value:=if H: ∃v,JT P g args A v then some H.choose else none
noncomputable def Th(P:Program)(imp:Imp)(g:FuncId)(args:Array Value)(A:AH)(ν:Nu)(n:Nat)(K:Nu→Nat→Value→AH→Prop)(_t:Tg K:=()):Prop:=
 if g∈imp.l then JF imp.X P g args A fun v A'=> ∀ν',DN ν' A'→K ν' 0 v A' else Ay (B5 P g args A) fun v=>K ν n v A
noncomputable def OX(P:Program)(imp:Imp)(f:Value)(vs:List Value)(A:AH)(ν:Nu)(n:Nat)(K:Nu→Nat→Value→AH→Prop):Prop:=
 match f with
 | .func (.func g) fs cs=>Th P imp g (fs++vs.toArray++cs) A ν n K
 |_=>False
def NJ(P:Program)(s:Sem Value)(A:AH)(K:Value→AH→Prop):Prop:= ∀h,DO A h→DA P s h fun v h'=> ∃A',DO A' h'∧Ca A h A' h'∧K v A'
def MO(P:Program)(s:Sem Value)(A:AH)(v:Value):Prop:= ∀w:World,DO A w.heap→s.run P w=.ok v w
open Classical in
noncomputable def F8(P:Program)(s:Sem Value)(A:AH):Option Value:=if H: ∃v,MO P s A v then some H.choose else none
noncomputable def Js(P:Program)(s:Sem Value)(A:AH)(ν:Nu)(n:Nat)(K:Nu→Nat→Value→AH→Prop)(_t:Tg K:=()):Prop:=Ay (F8 P s A) fun v=>K ν n v A
def Ef(P:Program)(s:Sem Value)(A:AH)(ν:Nu)(n:Nat)(K:Nu→Nat→Value→AH→Prop)(_t:Tg K:=()):Prop:=NJ P s A fun v A'=> ∀ν',DN ν' A'→K ν' 0 v A'
def rC(s:Option (Bool×Nat))(o:Option Obj)(a:Addr):Option Value:=match s with
 |some (true,n)=>if a.spot=none then Gj (D0 o a.off n)else none
 |some (false,_)=>if a.spot=none then MN o a.off else none
 |none=>none
def Ep(P:Program)(A:AH)(t:TypeId)(a:Addr):Option Value:=rC (Cw P t) (AA A a.block) a
def mY(A:AH)(b:Nat)(o:Option Obj)(i:Nat)(vs:List Value):Option AH:=match o with
 |some (.cells c e fr)=>if i+vs.length≤c.size∧(fr.2≤i∨i+vs.length≤fr.1)∧Ds vs=true then some (Fy A b (.cells (Cr c i vs) e fr))else none
 |_=>none
def oK(A:AH)(a:Addr)(vs:List Value):Option AH:=if a.spot=none then mY A a.block (AA A a.block) a.off vs else none
def nG(u:Option TypeDesc)(o:Option Obj)(K:Value→Prop):Prop:=SG u o K
def G0(P:Program)(t:TypeId)(x:Value)(A:AH)(K:Value→Prop):Prop:=
 match x with
 | .map (some r)=>nG (P.underlying t) (AA A r) K
 |x=>GM P t x #[] K
noncomputable def KA(P:Program)(s d:TypeId)(us ud:Option TypeDesc)(x:Value)(A:AH)(ν:Nu)(n:Nat)(K:Nu→Nat→Value→AH→Prop):Prop:=
 match us,ud with
 |some _,some (.int k)=>match x with
  | .int _ m=>K ν n (.int k (k.wrap m)) A
  |_=>False
 |some (.int _),some .string=>match x with
  | .int _ m=>K ν n (.string (Utf8.encode m)) A
  |_=>False
 |some .string,some .string=>match x with
  | .string b=>K ν n (.string b) A
  |_=>False
 |some (.slice _),some .string=>Js P (convert s d x) A ν n K
 |_,_=>Ef P (convert s d x) A ν n K
def J1(P:Program)(t:TypeId)(x:Value)(A:AH)(ν:Nu)(n:Nat)(K:Nu→Nat→Value→AH→Prop):Prop:=match x with
 | .string s=>Bf (P.underlying t=some .string) (K ν (n+1) (.pointer (some ⟨ν n,0,none⟩)) ((ν n,.stringIter s 0)::A))
 |x=>Ef P (Instr.range t x) A ν n K
def Lo(r:Nat)(o:Option Obj)(A:AH)(ν:Nu)(n:Nat)(K:Nu→Nat→Value→AH→Prop):Prop:=match o with
 |some (.stringIter s pos)=>Jx (decide (pos<s.size)) (K ν n (.tuple #[.bool true,.int .i64 pos,.int .i32 (Utf8.decode s pos).1]) (Fy A r (.stringIter s (pos+(Utf8.decode s pos).2)))) (K ν n (.tuple #[.bool false]) A)
 |_=>False
def PY(P:Program)(x:Value)(st:Bool)(ty:TypeId)(A:AH)(ν:Nu)(n:Nat)(K:Nu→Nat→Value→AH→Prop):Prop:=match x,st with
 | .pointer (some ⟨r,0,none⟩),true=>Lo r (AA A r) A ν n K
 |x,st=>Ef P (Instr.next x st ty) A ν n K
def Mk(P:Program)(ρ:Ba)(A:AH):ResultVar→Option Value
 | .tmp t=>get ρ t
 | .cell s ty=>match O4 (get ρ s)with|some a=>Ep P A ty a|none=>none
def F7(P:Program)(ρ:Ba)(A:AH):List ResultVar→Option (List Value)
 | []=>some []
 |r::l=>Dy (Mk P ρ A r) (F7 P ρ A l)
noncomputable def Bz(P:Program)(imp:Imp)(nt:Nat)(o:Oper)(ν:Nu)(n:Nat)(ρ:Ba)(A:AH)(K:Nu→Nat→Ba→AH→Prop):Prop:=
 match o.op with
 | .call {callee:=.value f,args, ..}=>Ay (BE ρ f) fun fv=>Ay (GA ρ args.toList) fun vs=>OX P imp fv vs A ν n fun ν n v A=>BJ nt o.dst v ρ fun ρ'=>K ν n ρ' A
 | .load t x=>Ay (BE ρ x) fun p=>Ay (DW p) fun a=>Ay (Ep P A t a) fun v=>BJ nt o.dst v ρ fun ρ'=>K ν n ρ' A
 | .store t x y=>Ay (BE ρ x) fun p=>Ay (DW p) fun a=>Ay (BE ρ y) fun v=>Ay (Cw P t) fun s=>Bf (v.cells.size=s.2) (Ay (oK A a v.cells.toList) fun A'=>BJ nt o.dst undef ρ fun ρ'=>K ν n ρ' A')
 | .alloc e=>Ay (DD P e) fun z=>BJ nt o.dst (.pointer (some ⟨ν n,0,none⟩)) ρ fun ρ'=>K ν (n+1) ρ' ((ν n,.cells z.cells e)::A)
 | .box e x=>Ay (BE ρ x) fun v=>BJ nt o.dst (.pointer (some ⟨ν n,0,none⟩)) ρ fun ρ'=>K ν (n+1) ρ' ((ν n,.cells v.cells e)::A)
 | .buildSlice t m ps=>Ay (AW ρ ps.toList) fun vs=>Ay (Cy P t m vs) fun r=>BJ nt o.dst (.slice (some ⟨ν n,0,none⟩) m m) ρ fun ρ'=>K ν (n+1) ρ' ((ν n,.cells r.2 r.1)::A)
 | .makeMap _ none=>BJ nt o.dst (.map (some (ν n))) ρ fun ρ'=>K ν (n+1) ρ' ((ν n,.map #[] 0)::A)
 | .convert s d x=>Ay (BE ρ x) fun v=>KA P s d (P.underlying s) (P.underlying d) v A ν n fun ν n u A=>BJ nt o.dst u ρ fun ρ'=>K ν n ρ' A
 | .makeSlice t l c=>Ay (BE ρ l) fun lv=>Ay (BE ρ c) fun cv=>Ef P (Instr.makeSlice t lv cv) A ν n fun ν n u A=>BJ nt o.dst u ρ fun ρ'=>K ν n ρ' A
 | .lookup t x i ok=>Ay (BE ρ x) fun m=>Ay (BE ρ i) fun k=>Js P (Instr.lookup t m k ok) A ν n fun ν n u A=>BJ nt o.dst u ρ fun ρ'=>K ν n ρ' A
 | .mapUpdate t x i y=>Ay (BE ρ x) fun m=>Ay (BE ρ i) fun k=>Ay (BE ρ y) fun v=>Ef P (do Instr.mapUpdate t m k v;Pure.pure undef) A ν n fun ν n u A=>BJ nt o.dst u ρ fun ρ'=>K ν n ρ' A
 | .insert t x i y=>Ay (BE ρ x) fun m=>Ay (BE ρ i) fun k=>Ay (BE ρ y) fun v=>Ef P (do Instr.mapUpdate t m k v;Pure.pure undef) A ν n fun ν n u A=>BJ nt o.dst u ρ fun ρ'=>K ν n ρ' A
 | .range t x=>Ay (BE ρ x) fun v=>J1 P t v A ν n fun ν n u A=>BJ nt o.dst u ρ fun ρ'=>K ν n ρ' A
 | .next x s=>Ay (BE ρ x) fun v=>PY P v s o.type A ν n fun ν n u A=>BJ nt o.dst u ρ fun ρ'=>K ν n ρ' A
 | .typeAssert x t a ok=>Ay (BE ρ x) fun v=>Js P (Instr.typeAssert v t a ok) A ν n fun ν n u A=>BJ nt o.dst u ρ fun ρ'=>K ν n ρ' A
 | .call {callee:=.builtin b,args,argTypes}=>Ay (GA ρ args.toList) fun vs=>
  match b,vs,argTypes.toList with
  | .len,[v],[t]=>G0 P t v A fun u=>BJ nt o.dst u ρ fun ρ'=>K ν n ρ' A
  | .append,_,_=>Ef P (Builtin.append_ argTypes o.type vs.toArray) A ν n fun ν n u A=>BJ nt o.dst u ρ fun ρ'=>K ν n ρ' A
  | .cap,_,_=>Js P (Builtin.cap_ argTypes o.type vs.toArray) A ν n fun ν n u A=>BJ nt o.dst u ρ fun ρ'=>K ν n ρ' A
  | .copy,_,_=>Ef P (Builtin.copy_ argTypes o.type vs.toArray) A ν n fun ν n u A=>BJ nt o.dst u ρ fun ρ'=>K ν n ρ' A
  | .delete,_,_=>Ef P (Builtin.delete_ argTypes o.type vs.toArray) A ν n fun ν n u A=>BJ nt o.dst u ρ fun ρ'=>K ν n ρ' A
  | .clear,_,_=>Ef P (Builtin.clear_ argTypes o.type vs.toArray) A ν n fun ν n u A=>BJ nt o.dst u ρ fun ρ'=>K ν n ρ' A
  | .unsafeSliceData,_,_=>Js P (Builtin.unsafeSliceData_ argTypes o.type vs.toArray) A ν n fun ν n u A=>BJ nt o.dst u ρ fun ρ'=>K ν n ρ' A
  | .unsafeString,_,_=>Ef P (Builtin.unsafeString_ argTypes o.type vs.toArray) A ν n fun ν n u A=>BJ nt o.dst u ρ fun ρ'=>K ν n ρ' A
  | .max,[.int k x,.int _ y],_=>BJ nt o.dst (.int k (if x<y then y else x)) ρ fun ρ'=>K ν n ρ' A
  | .min,[.int k x,.int _ y],_=>BJ nt o.dst (.int k (if y<x then y else x)) ρ fun ρ'=>K ν n ρ' A
  |_,_,_=>False
 | .panic x=>Ay (BE ρ x) fun v=>pt imp.X v A
 |op=>Bf (J8 P op=true) (BZ P nt o ρ #[] (fun ρ' _=>K ν n ρ' A) fun _ _=>False)
noncomputable def Bd(P:Program)(imp:Imp)(nt:Nat)(all:List Oper):Nat→Option (Nat×Bool)→List Oper→Nu→Nat→Ba→AH→(Nu→Nat→Ba→AH→Prop)→Prop
 |0,_,_,_,_,_,_,_=>False
 |_+1,_,[],ν,n,ρ,A,K=>K ν n ρ A
 | m +1,cur,o::rest,ν,n,ρ,A,K=>
  if o.guard=cur then Bz P imp nt o ν n ρ A fun ν n ρ' A=>Bd P imp nt all m cur rest ν n ρ' A K
  else match o.guard with
   |none=>False
   | some (j,want)=>Ay (Cj all j) fun s=>Ay (get ρ s) fun v=>match v with
    | .bool b=>Bf (Cn all s j want [] (Bl cur (o::rest))=true)
     (match EC (Bl cur (o::rest)),CJ cur (o::rest)with
     |true,p::after=>match Cs want s p.op with
      |some y=>Bd P imp nt all m (some (j,want)) (Bl cur (o::rest)) ν n ρ A fun ν n ρ' A=>Ay (BE ρ' y) fun c=>C9 nt p.dst want b c (DR (Bl cur (o::rest)) ρ) fun ρ''=>Bd P imp nt all m cur after ν n ρ'' A K
      |none=>False
     |_,after=>Jx (b==want) (Bd P imp nt all m (some (j,want)) (Bl cur (o::rest)) ν n ((s,some (.bool want))::ρ) A fun ν n ρ' A=>Bd P imp nt all m cur after ν n ρ' A K) (Bd P imp nt all m cur after ν n (DR (Bl cur (o::rest)) ((s,some (.bool (!want)))::ρ)) A K))
    |_=>False
noncomputable def P6(P:Program)(f:Value)(vs:List Value)(A:AH)(K:Value→Prop):Prop:=match f with
 | .func (.func g) fs cs=>Bf (AD P g=true) (Ay (B5 P g (fs++vs.toArray++cs) A) K)
 |_=>False
noncomputable def JD(P:Program)(s d:TypeId)(us ud:Option TypeDesc)(x:Value)(A:AH)(K:Value→Prop):Prop:=
 match us,ud with
 |some _,some (.int k)=>match x with
  | .int _ m=>K (.int k (k.wrap m))
  |_=>False
 |_,_=>Ay (F8 P (convert s d x) A) K
noncomputable def B4(P:Program)(n:Nat)(o:Oper)(ρ:Ba)(A:AH)(K:Ba→Prop):Prop:=
 match o.op with
 | .call {callee:=.value f,args, ..}=>Ay (BE ρ f) fun fv=>Ay (GA ρ args.toList) fun vs=>P6 P fv vs A fun v=>BJ n o.dst v ρ K
 | .load t x=>Ay (BE ρ x) fun p=>Ay (DW p) fun a=>Ay (Ep P A t a) fun v=>BJ n o.dst v ρ K
 | .convert s d x=>Ay (BE ρ x) fun v=>JD P s d (P.underlying s) (P.underlying d) v A fun u=>BJ n o.dst u ρ K
 | .lookup t x i ok=>Ay (BE ρ x) fun m=>Ay (BE ρ i) fun k=>Ay (F8 P (Instr.lookup t m k ok) A) fun u=>BJ n o.dst u ρ K
 | .call {callee:=.builtin b,args,argTypes}=>Ay (GA ρ args.toList) fun vs=>
  match b,vs,argTypes.toList with
  | .len,[v],[t]=>G0 P t v A fun u=>BJ n o.dst u ρ K
  |_,_,_=>False
 |op=>Bf (J8 P op=true) (HL P op o.type ρ #[] fun v _=>BJ n o.dst v ρ K)
noncomputable def B6(P:Program)(n:Nat)(sp:Bool)(all:List Oper)(A:AH):Nat→Option (Nat×Bool)→List Oper→Ba→(Ba→Prop)→Prop
 |0,_,_,_,_=>False
 |_+1,_,[],ρ,K=>K ρ
 | m +1,cur,o::rest,ρ,K=>
  if o.guard=cur then B4 P n o ρ A (fun ρ'=>B6 P n sp all A m cur rest ρ' K)
  else match o.guard with
   |none=>False
   | some (j,want)=>Ay (Cj all j) fun s=>Ay (get ρ s) fun v=>match v with
    | .bool b=>Bf (Cn all s j want [] (Bl cur (o::rest))=true)
     (match FF sp (Bl cur (o::rest)),CJ cur (o::rest)with
     |true,p::after=>match Cs want s p.op with
      |some y=>B6 P n sp all A m (some (j,want)) (Bl cur (o::rest)) ρ (fun ρ'=>Ay (BE ρ' y) fun c=>C9 n p.dst want b c (DR (Bl cur (o::rest)) ρ) fun ρ''=>B6 P n sp all A m cur after ρ'' K)
      |none=>False
     |_,after=>Jx (b==want) (B6 P n sp all A m (some (j,want)) (Bl cur (o::rest)) ((s,some (.bool want))::ρ) (fun ρ'=>B6 P n sp all A m cur after ρ' K)) (B6 P n sp all A m cur after (DR (Bl cur (o::rest)) ((s,some (.bool (!want)))::ρ)) K))
    |_=>False
def Ty:AH→AH→Prop
 | [],_=>True
 |(b,o)::A,B=>AA B b=some o∧Ty A B
def SubA(A' A:AH):Prop:= ∀b o,AA A' b=some o→AA A b=some o
def Bt(imp:Imp):Op→Bool
 | .alloc _| .box .. | .buildSlice .. | .makeMap .. | .store .. | .mapUpdate .. | .insert .. | .makeSlice .. | .range .. | .next .. | .typeAssert .. | .panic .. =>false
 | .call {callee:=.builtin b, ..}=>match b with| .len=>true|_=>false
 | .call {callee:=.value f, ..}=>match f with| .func g=> !imp.l.contains g|_=>false
 |_=>true
def GZ:Op→Bool
 | .load .. | .convert .. | .lookup .. | .call _=>false
 |_=>true
def Pn(ops:Array Oper)(j i:Nat):Bool:=match ops[j]? with|some o=>o.after.any (fun e=>Region.binds .any e&&e.on==i)|none=>false
def V3(ops:Array Oper)(j:Nat):Bool:=(List.range ops.size).all fun i=>i==j||Pn ops j i||Pn ops i j||(match ops[i]? with|some o=>GZ o.op|none=>true)
def HZ:List (Nat×Nat)→Nat→Bool
 | [],_=>false
 |(i,m)::l,j=>(i==j&&m==2)||HZ l j
def GQ(imp:Imp)(ops:Array Oper)(rs:Nat→Bool):List (Nat×Nat)→Array Bool→Bool
 | [],listed=>(Region.ready .any ops listed).isEmpty
 |(i,m)::l,listed=>(match ops[i]? with
  |some o=>if Bt imp o.op then(Region.ready .any ops listed).contains i&&Region.free .any ops listed i else Region.ready .any ops listed==[i]&&(if m=2 then rs i else true)
  |none=>false)&&GQ imp ops rs l (listed.setIfInBounds i true)
def D6(ops:Array Oper)(rs:Nat→Bool):Bool:=(List.range ops.size).all fun j=> !rs j||V3 ops j
def En(As A':AH)(m:Nat)(K:AH→Prop):Prop:=if m=2 then K A' else Bf (SubA As A') (if m=1 then K A' else K As)
noncomputable def HP(P:Program)(imp:Imp)(nt:Nat)(As:AH)(m:Nat)(ν:Nu)(n:Nat)(ρ:Ba)(A:AH)(K:AH→Nu→Nat→Ba→AH→Prop)(o:Option Oper):Prop:=match o with
 |some o=>if Bt imp o.op=true then B4 P nt o ρ As fun ρ'=>K As ν n ρ' A else Bz P imp nt o ν n ρ A fun ν n ρ' A'=>En As A' m fun As'=>K As' ν n ρ' A'
 |none=>False
noncomputable def EF(P:Program)(imp:Imp)(nt:Nat)(all:List Oper)(As:AH)(m:Nat)(ν:Nu)(n:Nat)(ρ:Ba)(A:AH)(K:AH→Nu→Nat→Ba→AH→Prop)(o:Option Oper):Prop:=match o with
 |some o=>match o.guard with
  |none=>HP P imp nt As m ν n ρ A K (some o)
  |some (j,want)=>Ay (Cj all j) fun s=>Ay (get ρ s) fun v=>eV want v (HP P imp nt As m ν n ρ A K (some o)) (BJ nt o.dst undef ρ fun ρ'=>K As ν n ρ' A)
 |none=>False
noncomputable def DM(P:Program)(imp:Imp)(nt:Nat)(all:List Oper):List (Nat×Nat)→AH→Nu→Nat→Ba→AH→(Nu→Nat→Ba→AH→Prop)→Prop
 | [],_,ν,n,ρ,A,K=>K ν n ρ A
 |(i,m)::l,As,ν,n,ρ,A,K=>EF P imp nt all As m ν n ρ A (fun As ν n ρ' A=>DM P imp nt all l As ν n ρ' A K) all[i]?
inductive Pln where
 |q (sp:Bool)
 |p (l:List (Nat×Nat))
def F4:List (Nat×Pln)→Nat→Option Pln
 | [],_=>none
 |(i,p)::l,j=>if i=j then some p else F4 l j
structure CxA where
 P:Program
 f:FuncId
 fn:Func
 n:Nat
 live:List Nat
 imp:Imp
 plans:List (Nat×Pln)
 R:Value→AH→Prop
def CxA.cx(c:CxA)(A0:AH)(h0:AY):Cx:=⟨c.P,c.f,c.fn,c.n,c.live,Z0 c.imp.X A0 h0 c.R⟩
def Ah[dd:DefD]{c:CxA}{body:Code}{k:List It}(ρ:Ba)(A:AH)(_t:Tg (c,body,k)):Prop:= ∀A0 h0 h,DO A h→Ca A0 h0 A h→ @Bh dd (c.cx A0 h0) body k ρ h ()
def CO[dd:DefD]{c:CxA}{k:List It}(ρ:Ba)(A:AH)(_t:Tg (c,k)):Prop:= ∀A0 h0 h,DO A h→Ca A0 h0 A h→ @Gg dd (c.cx A0 h0) k ρ h ()
def XX(c:CxA)(ρ:Ba)(A:AH):Prop:=Ay (F7 c.P ρ A c.fn.results.toList) fun vs=>c.R (one vs) A
noncomputable def Bi[dd:DefD](c:CxA)(k:List It)(ν:Nu)(n:Nat)(ρ:Ba)(A:AH):Prop:=
 match _hk:k with
 | []=>XX c ρ A
 | .blk _::k=>Bi c k ν n ρ A
 | .sc _::k=>Bi c k ν n ρ A
 | .lp body::k=> @Ah dd c body k (canon c.live ρ) A ()
 | .code .skip::k=>Bi c k ν n ρ A
 | .code (.label _)::k=>Bi c k ν n ρ A
 | .code .ret::_=>XX c ρ A
 | .code (.seq x y)::k=>Bi c (.code x:: .code y::k) ν n ρ A
 | .code (.cond x t e)::k=>Ay (BE ρ x) fun v=>QG v (Bi c (.code t::k) ν n ρ A) (Bi c (.code e::k) ν n ρ A)
 | .code (.block id b)::k=>Bi c (.code b:: .blk id::k) ν n ρ A
 | .code (.scope b)::k=>Bi c (.code b:: .sc b::k) ν n ρ A
 | .code (.loop body)::k=> @Ah dd c body k (canon c.live ρ) A ()
 | .code (.exit id)::k=>match _he:Cu id k with
  |some k'=>Bi c k' ν n ρ A
  |none=>False
 | .code (.region _ ops false)::k=>Bd c.P c.imp c.n ops.toList 400 none ops.toList ν n (canon c.live ρ) A (fun ν n ρ' A=>Bi c k ν n ρ' A)
 | .code (.region id ops true)::k=>match F4 c.plans id with
  |some (.q sp)=>B6 c.P c.n sp ops.toList A 400 none ops.toList (canon c.live ρ) (fun ρ'=>Bi c k ν n ρ' A)
  |some (.p pl)=>DM c.P c.imp c.n ops.toList pl A ν n (canon c.live ρ) A (fun ν n ρ' A=>Bi c k ν n ρ' A)
  |none=> @CO dd c (.code (.region id ops true)::k) (canon c.live ρ) A ()
 | .code _::_=>False
termination_by Jo k
decreasing_by
 all_goals simp only[Jo,Ma,HW]<;>(try omega)
 have:=EM _ _ _ ‹_›
 omega
def Q8(P:Program)(imp:Imp)(plans:List (Nat×Pln)):Code→Bool
 | .region id ops true=>match F4 plans id with
  |some (.q _)=>P.follows .mixedOrders&&Region.lexB .any ops
  |some (.p pl)=>P.follows .mixedOrders&&(Region.noSelect ops&&(pl.length==ops.size&&(D6 ops (HZ pl)&&GQ imp ops (HZ pl) pl (Array.replicate ops.size false))))
  |none=>true
 | .seq a b=>Q8 P imp plans a&&Q8 P imp plans b
 | .cond _ a b=>Q8 P imp plans a&&Q8 P imp plans b
 | .block _ b=>Q8 P imp plans b
 | .scope b=>Q8 P imp plans b
 | .loop b=>Q8 P imp plans b
 |_=>true
def Xk(P:Program)(imp:Imp)(plans:List (Nat×Pln)):It→Bool
 | .code c=>Q8 P imp plans c
 |_=>true
def Ow(P:Program)(imp:Imp)(plans:List (Nat×Pln)):List It→Bool
 | []=>true
 |x::k=>Xk P imp plans x&&Ow P imp plans k
noncomputable def UZ[dd:DefD](c:CxA)(k:Option (List It))(ν:Nu)(n:Nat)(ρ:Ba)(A:AH):Prop:=match k with|some k=>Bi c k ν n ρ A|none=>False
end Go.Vm
