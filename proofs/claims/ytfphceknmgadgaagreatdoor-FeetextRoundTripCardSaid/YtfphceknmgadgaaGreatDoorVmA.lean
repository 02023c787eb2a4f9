/-
A second evaluator, over the blocks that are known ('AH'): fresh blocks bear names drawn from a supply, calls of functions that change nothing leave what is known as it is. Its meaning is the first evaluator's, run from every heap that fits.
Conditions: none. Generic: it speaks of no program.
-/
import Derived.Test.YtfphceknmgadgaaGreatDoorVmMap
set_option linter.unusedSimpArgs false
set_option linter.unusedVariables false
namespace Go.Vm
abbrev Nu:=Nat→Nat
abbrev AH:=List (Nat×Obj)
def AA:AH→Nat→Option Obj
 | [],_=>none
 |(b,o)::A,x=>if b=x then some o else AA A x
def Fc:AH→Nat→Obj→AH
 | [],_,_=>[]
 |(b,o)::A,x,u=>if b=x then(b,u)::A else(b,o)::Fc A x u
def Dq(A:AH)(h:AX):Prop:= ∀b o,AA A b=some o→h[b]? =some o
def Cc(A:AH)(h:AX)(A':AH)(h':AX):Prop:=h.size≤h'.size∧ ∀b,b<h.size→AA A b=none→h'[b]? =h[b]? ∧AA A' b=none
def R9(ν:Nu):Prop:= ∀i j,ν i=ν j→i=j
def Dx(ν:Nu)(A:AH):Prop:=R9 ν∧ ∀i,AA A (ν i)=none
def KG(A:AH)(h:AX)(K:Value→AH→Prop)(e:Ending)(h':AX):Prop:= ∃v A',e=.returned v∧Dq A' h'∧Cc A h A' h'∧K v A'
def Fl(P:Program)(g:FuncId)(args:Array Value)(h:AX)(R:Ending→AX→Prop):Prop:=if AD P g=true then CallsH P g args h R else fe P g args h R
def Ak(P:Program)(g:FuncId)(args:Array Value)(A:AH)(K:Value→AH→Prop):Prop:= ∀h,Dq A h→Fl P g args h (KG A h K)
def jL(A:AH)(h:AX)(X:List PanicEntry→AH→Prop)(K:Value→AH→Prop)(e:Ending)(h':AX):Prop:=KG A h K e h'∨ ∃ch A',e=.panicked ch∧Dq A' h'∧Cc A h A' h'∧X ch A'
abbrev Xp:=Option (List PanicEntry→AH→Prop)
def de(X:Xp)(A:AH)(h:AX)(K:Value→AH→Prop):Ending→AX→Prop:=match X with|none=>KG A h K|some X=>jL A h X K
def AZ(P:Program)(g:FuncId)(args:Array Value)(A:AH)(X:List PanicEntry→AH→Prop)(K:Value→AH→Prop):Prop:= ∀h,Dq A h→Fl P g args h (jL A h X K)
def KW(X:Xp)(P:Program)(g:FuncId)(args:Array Value)(A:AH)(K:Value→AH→Prop):Prop:=match X with|none=>Ak P g args A K|some X=>AZ P g args A X K
def panX(X:Xp)(v:Value)(A:AH):Prop:=match X,v with
 |some X,.iface t u=>X [{v:=.iface t u,recovered:=false}] A
 |_,_=>False
structure Imp where
 l:List Nat
 X:Xp
def Km(P:Program)(g:FuncId)(args:Array Value)(A:AH)(v:Value):Prop:=(AD P g=true→P.inits.idxOf? g=none)∧ ∀h,Dq A h→Fl P g args h fun e h'=>e=.returned v∧Grew h h'
open Classical in
noncomputable def Bi(P:Program)(g:FuncId)(args:Array Value)(A:AH):Option Value:=if H: ∃v,Km P g args A v then some H.choose else none
noncomputable def XE(P:Program)(imp:Imp)(g:FuncId)(args:Array Value)(A:AH)(ν:Nu)(n:Nat)(K:Nu→Nat→Value→AH→Prop)(_t:Tg K:=()):Prop:=
 if g∈imp.l then KW imp.X P g args A fun v A'=> ∀ν',Dx ν' A'→K ν' 0 v A' else A9 (Bi P g args A) fun v=>K ν n v A
noncomputable def Q6(P:Program)(imp:Imp)(f:Value)(vs:List Value)(A:AH)(ν:Nu)(n:Nat)(K:Nu→Nat→Value→AH→Prop):Prop:=
 match f with
 | .func (.func g) fs cs=>XE P imp g (fs++vs.toArray++cs) A ν n K
 |_=>False
def Ja(P:Program)(s:Sem Value)(A:AH)(K:Value→AH→Prop):Prop:= ∀h,Dq A h→Db P s h fun v h'=> ∃A',Dq A' h'∧Cc A h A' h'∧K v A'
def OU(P:Program)(s:Sem Value)(A:AH)(v:Value):Prop:= ∀w:World,Dq A w.heap→s.run P w=.ok v w
open Classical in
noncomputable def F3(P:Program)(s:Sem Value)(A:AH):Option Value:=if H: ∃v,OU P s A v then some H.choose else none
noncomputable def K8(P:Program)(s:Sem Value)(A:AH)(ν:Nu)(n:Nat)(K:Nu→Nat→Value→AH→Prop)(_t:Tg K:=()):Prop:=A9 (F3 P s A) fun v=>K ν n v A
def FP(P:Program)(s:Sem Value)(A:AH)(ν:Nu)(n:Nat)(K:Nu→Nat→Value→AH→Prop)(_t:Tg K:=()):Prop:=Ja P s A fun v A'=> ∀ν',Dx ν' A'→K ν' 0 v A'
def rdA(s:Option (Bool×Nat))(o:Option Obj)(a:Addr):Option Value:=match s with
 |some (true,n)=>if a.spot=none then Hs (EZ o a.off n)else none
 |some (false,_)=>if a.spot=none then Oi o a.off else none
 |none=>none
def F1(P:Program)(A:AH)(t:TypeId)(a:Addr):Option Value:=rdA (DP P t) (AA A a.block) a
def wrO(A:AH)(b:Nat)(o:Option Obj)(i:Nat)(vs:List Value):Option AH:=match o with
 |some (.cells c e fr)=>if i+vs.length≤c.size∧(fr.2≤i∨i+vs.length≤fr.1)∧Ek vs=true then some (Fc A b (.cells (DE c i vs) e fr))else none
 |_=>none
def wrA(A:AH)(a:Addr)(vs:List Value):Option AH:=if a.spot=none then wrO A a.block (AA A a.block) a.off vs else none
def lenO(u:Option TypeDesc)(o:Option Obj)(K:Value→Prop):Prop:=V8 u o K
def JX(P:Program)(t:TypeId)(x:Value)(A:AH)(K:Value→Prop):Prop:=
 match x with
 | .map (some r)=>lenO (P.underlying t) (AA A r) K
 |x=>Hz P t x #[] K
noncomputable def J2(P:Program)(s d:TypeId)(us ud:Option TypeDesc)(x:Value)(A:AH)(ν:Nu)(n:Nat)(K:Nu→Nat→Value→AH→Prop):Prop:=
 match us,ud with
 |some _,some (.int k)=>match x with
  | .int _ m=>K ν n (.int k (k.wrap m)) A
  |_=>False
 |some (.int _),some .string=>match x with
  | .int _ m=>K ν n (.string (Utf8.encode m)) A
  |_=>False
 |some .string,some .string=>match x with
  | .string b=>K ν n (.string b) A
  |_=>False
 |some (.slice _),some .string=>K8 P (convert s d x) A ν n K
 |_,_=>FP P (convert s d x) A ν n K
def Lh(P:Program)(t:TypeId)(x:Value)(A:AH)(ν:Nu)(n:Nat)(K:Nu→Nat→Value→AH→Prop):Prop:=match x with
 | .string s=>Br (P.underlying t=some .string) (K ν (n+1) (.pointer (some ⟨ν n,0,none⟩)) ((ν n,.stringIter s 0)::A))
 |x=>FP P (Instr.range t x) A ν n K
def Ob(r:Nat)(o:Option Obj)(A:AH)(ν:Nu)(n:Nat)(K:Nu→Nat→Value→AH→Prop):Prop:=match o with
 |some (.stringIter s pos)=>Lo (decide (pos<s.size)) (K ν n (.tuple #[.bool true,.int .i64 pos,.int .i32 (Utf8.decode s pos).1]) (Fc A r (.stringIter s (pos+(Utf8.decode s pos).2)))) (K ν n (.tuple #[.bool false]) A)
 |_=>False
def Qj(P:Program)(x:Value)(st:Bool)(ty:TypeId)(A:AH)(ν:Nu)(n:Nat)(K:Nu→Nat→Value→AH→Prop):Prop:=match x,st with
 | .pointer (some ⟨r,0,none⟩),true=>Ob r (AA A r) A ν n K
 |x,st=>FP P (Instr.next x st ty) A ν n K
def N5(P:Program)(ρ:Bc)(A:AH):ResultVar→Option Value
 | .tmp t=>get ρ t
 | .cell s ty=>match Qw (get ρ s)with|some a=>F1 P A ty a|none=>none
def HX(P:Program)(ρ:Bc)(A:AH):List ResultVar→Option (List Value)
 | []=>some []
 |r::l=>Em (N5 P ρ A r) (HX P ρ A l)
noncomputable def CB(P:Program)(imp:Imp)(nt:Nat)(o:Oper)(ν:Nu)(n:Nat)(ρ:Bc)(A:AH)(K:Nu→Nat→Bc→AH→Prop):Prop:=
 match o.op with
 | .call {callee:=.value f,args, ..}=>A9 (BM ρ f) fun fv=>A9 (G8 ρ args.toList) fun vs=>Q6 P imp fv vs A ν n fun ν n v A=>BL nt o.dst v ρ fun ρ'=>K ν n ρ' A
 | .load t x=>A9 (BM ρ x) fun p=>A9 (D7 p) fun a=>A9 (F1 P A t a) fun v=>BL nt o.dst v ρ fun ρ'=>K ν n ρ' A
 | .store t x y=>A9 (BM ρ x) fun p=>A9 (D7 p) fun a=>A9 (BM ρ y) fun v=>A9 (DP P t) fun s=>Br (v.cells.size=s.2) (A9 (wrA A a v.cells.toList) fun A'=>BL nt o.dst undef ρ fun ρ'=>K ν n ρ' A')
 | .alloc e=>A9 (DU P e) fun z=>BL nt o.dst (.pointer (some ⟨ν n,0,none⟩)) ρ fun ρ'=>K ν (n+1) ρ' ((ν n,.cells z.cells e)::A)
 | .box e x=>A9 (BM ρ x) fun v=>BL nt o.dst (.pointer (some ⟨ν n,0,none⟩)) ρ fun ρ'=>K ν (n+1) ρ' ((ν n,.cells v.cells e)::A)
 | .buildSlice t m ps=>A9 (Ae ρ ps.toList) fun vs=>A9 (C4 P t m vs) fun r=>BL nt o.dst (.slice (some ⟨ν n,0,none⟩) m m) ρ fun ρ'=>K ν (n+1) ρ' ((ν n,.cells r.2 r.1)::A)
 | .makeMap _ none=>BL nt o.dst (.map (some (ν n))) ρ fun ρ'=>K ν (n+1) ρ' ((ν n,.map #[] 0)::A)
 | .convert s d x=>A9 (BM ρ x) fun v=>J2 P s d (P.underlying s) (P.underlying d) v A ν n fun ν n u A=>BL nt o.dst u ρ fun ρ'=>K ν n ρ' A
 | .makeSlice t l c=>A9 (BM ρ l) fun lv=>A9 (BM ρ c) fun cv=>FP P (Instr.makeSlice t lv cv) A ν n fun ν n u A=>BL nt o.dst u ρ fun ρ'=>K ν n ρ' A
 | .lookup t x i ok=>A9 (BM ρ x) fun m=>A9 (BM ρ i) fun k=>K8 P (Instr.lookup t m k ok) A ν n fun ν n u A=>BL nt o.dst u ρ fun ρ'=>K ν n ρ' A
 | .mapUpdate t x i y=>A9 (BM ρ x) fun m=>A9 (BM ρ i) fun k=>A9 (BM ρ y) fun v=>FP P (do Instr.mapUpdate t m k v;Pure.pure undef) A ν n fun ν n u A=>BL nt o.dst u ρ fun ρ'=>K ν n ρ' A
 | .insert t x i y=>A9 (BM ρ x) fun m=>A9 (BM ρ i) fun k=>A9 (BM ρ y) fun v=>FP P (do Instr.mapUpdate t m k v;Pure.pure undef) A ν n fun ν n u A=>BL nt o.dst u ρ fun ρ'=>K ν n ρ' A
 | .range t x=>A9 (BM ρ x) fun v=>Lh P t v A ν n fun ν n u A=>BL nt o.dst u ρ fun ρ'=>K ν n ρ' A
 | .next x s=>A9 (BM ρ x) fun v=>Qj P v s o.type A ν n fun ν n u A=>BL nt o.dst u ρ fun ρ'=>K ν n ρ' A
 | .typeAssert x t a ok=>A9 (BM ρ x) fun v=>K8 P (Instr.typeAssert v t a ok) A ν n fun ν n u A=>BL nt o.dst u ρ fun ρ'=>K ν n ρ' A
 | .call {callee:=.builtin b,args,argTypes}=>A9 (G8 ρ args.toList) fun vs=>
  match b,vs,argTypes.toList with
  | .len,[v],[t]=>JX P t v A fun u=>BL nt o.dst u ρ fun ρ'=>K ν n ρ' A
  | .append,_,_=>FP P (Builtin.append_ argTypes o.type vs.toArray) A ν n fun ν n u A=>BL nt o.dst u ρ fun ρ'=>K ν n ρ' A
  | .cap,_,_=>K8 P (Builtin.cap_ argTypes o.type vs.toArray) A ν n fun ν n u A=>BL nt o.dst u ρ fun ρ'=>K ν n ρ' A
  | .copy,_,_=>FP P (Builtin.copy_ argTypes o.type vs.toArray) A ν n fun ν n u A=>BL nt o.dst u ρ fun ρ'=>K ν n ρ' A
  | .delete,_,_=>FP P (Builtin.delete_ argTypes o.type vs.toArray) A ν n fun ν n u A=>BL nt o.dst u ρ fun ρ'=>K ν n ρ' A
  | .clear,_,_=>FP P (Builtin.clear_ argTypes o.type vs.toArray) A ν n fun ν n u A=>BL nt o.dst u ρ fun ρ'=>K ν n ρ' A
  | .unsafeSliceData,_,_=>K8 P (Builtin.unsafeSliceData_ argTypes o.type vs.toArray) A ν n fun ν n u A=>BL nt o.dst u ρ fun ρ'=>K ν n ρ' A
  | .unsafeString,_,_=>FP P (Builtin.unsafeString_ argTypes o.type vs.toArray) A ν n fun ν n u A=>BL nt o.dst u ρ fun ρ'=>K ν n ρ' A
  | .max,[.int k x,.int _ y],_=>BL nt o.dst (.int k (if x<y then y else x)) ρ fun ρ'=>K ν n ρ' A
  | .min,[.int k x,.int _ y],_=>BL nt o.dst (.int k (if y<x then y else x)) ρ fun ρ'=>K ν n ρ' A
  |_,_,_=>False
 | .panic x=>A9 (BM ρ x) fun v=>panX imp.X v A
 |op=>Br (Ls P op=true) (Bb P nt o ρ #[] (fun ρ' _=>K ν n ρ' A) fun _ _=>False)
noncomputable def Bl(P:Program)(imp:Imp)(nt:Nat)(all:List Oper):Nat→Option (Nat×Bool)→List Oper→Nu→Nat→Bc→AH→(Nu→Nat→Bc→AH→Prop)→Prop
 |0,_,_,_,_,_,_,_=>False
 |_+1,_,[],ν,n,ρ,A,K=>K ν n ρ A
 | m +1,cur,o::rest,ν,n,ρ,A,K=>
  if o.guard=cur then CB P imp nt o ν n ρ A fun ν n ρ' A=>Bl P imp nt all m cur rest ν n ρ' A K
  else match o.guard with
   |none=>False
   | some (j,want)=>A9 (C2 all j) fun s=>A9 (get ρ s) fun v=>match v with
    | .bool b=>Br (C7 all s j want [] (Bv cur (o::rest))=true)
     (match FF (Bv cur (o::rest)),Cb cur (o::rest)with
     |true,p::after=>match DD want s p.op with
      |some y=>Bl P imp nt all m (some (j,want)) (Bv cur (o::rest)) ν n ρ A fun ν n ρ' A=>A9 (BM ρ' y) fun c=>Dg nt p.dst want b c (D5 (Bv cur (o::rest)) ρ) fun ρ''=>Bl P imp nt all m cur after ν n ρ'' A K
      |none=>False
     |_,after=>Lo (b==want) (Bl P imp nt all m (some (j,want)) (Bv cur (o::rest)) ν n ((s,some (.bool want))::ρ) A fun ν n ρ' A=>Bl P imp nt all m cur after ν n ρ' A K) (Bl P imp nt all m cur after ν n (D5 (Bv cur (o::rest)) ((s,some (.bool (!want)))::ρ)) A K))
    |_=>False
noncomputable def SZ(P:Program)(f:Value)(vs:List Value)(A:AH)(K:Value→Prop):Prop:=match f with
 | .func (.func g) fs cs=>Br (AD P g=true) (A9 (Bi P g (fs++vs.toArray++cs) A) K)
 |_=>False
noncomputable def LH(P:Program)(s d:TypeId)(us ud:Option TypeDesc)(x:Value)(A:AH)(K:Value→Prop):Prop:=
 match us,ud with
 |some _,some (.int k)=>match x with
  | .int _ m=>K (.int k (k.wrap m))
  |_=>False
 |_,_=>A9 (F3 P (convert s d x) A) K
noncomputable def CJ(P:Program)(n:Nat)(o:Oper)(ρ:Bc)(A:AH)(K:Bc→Prop):Prop:=
 match o.op with
 | .call {callee:=.value f,args, ..}=>A9 (BM ρ f) fun fv=>A9 (G8 ρ args.toList) fun vs=>SZ P fv vs A fun v=>BL n o.dst v ρ K
 | .load t x=>A9 (BM ρ x) fun p=>A9 (D7 p) fun a=>A9 (F1 P A t a) fun v=>BL n o.dst v ρ K
 | .convert s d x=>A9 (BM ρ x) fun v=>LH P s d (P.underlying s) (P.underlying d) v A fun u=>BL n o.dst u ρ K
 | .lookup t x i ok=>A9 (BM ρ x) fun m=>A9 (BM ρ i) fun k=>A9 (F3 P (Instr.lookup t m k ok) A) fun u=>BL n o.dst u ρ K
 | .call {callee:=.builtin b,args,argTypes}=>A9 (G8 ρ args.toList) fun vs=>
  match b,vs,argTypes.toList with
  | .len,[v],[t]=>JX P t v A fun u=>BL n o.dst u ρ K
  |_,_,_=>False
 |op=>Br (Ls P op=true) (Jq P op o.type ρ #[] fun v _=>BL n o.dst v ρ K)
noncomputable def CL(P:Program)(n:Nat)(sp:Bool)(all:List Oper)(A:AH):Nat→Option (Nat×Bool)→List Oper→Bc→(Bc→Prop)→Prop
 |0,_,_,_,_=>False
 |_+1,_,[],ρ,K=>K ρ
 | m +1,cur,o::rest,ρ,K=>
  if o.guard=cur then CJ P n o ρ A (fun ρ'=>CL P n sp all A m cur rest ρ' K)
  else match o.guard with
   |none=>False
   | some (j,want)=>A9 (C2 all j) fun s=>A9 (get ρ s) fun v=>match v with
    | .bool b=>Br (C7 all s j want [] (Bv cur (o::rest))=true)
     (match GP sp (Bv cur (o::rest)),Cb cur (o::rest)with
     |true,p::after=>match DD want s p.op with
      |some y=>CL P n sp all A m (some (j,want)) (Bv cur (o::rest)) ρ (fun ρ'=>A9 (BM ρ' y) fun c=>Dg n p.dst want b c (D5 (Bv cur (o::rest)) ρ) fun ρ''=>CL P n sp all A m cur after ρ'' K)
      |none=>False
     |_,after=>Lo (b==want) (CL P n sp all A m (some (j,want)) (Bv cur (o::rest)) ((s,some (.bool want))::ρ) (fun ρ'=>CL P n sp all A m cur after ρ' K)) (CL P n sp all A m cur after (D5 (Bv cur (o::rest)) ((s,some (.bool (!want)))::ρ)) K))
    |_=>False
def PM:AH→AH→Prop
 | [],_=>True
 |(b,o)::A,B=>AA B b=some o∧PM A B
def SubA(A' A:AH):Prop:= ∀b o,AA A' b=some o→AA A b=some o
def B4(imp:Imp):Op→Bool
 | .alloc _| .box .. | .buildSlice .. | .makeMap .. | .store .. | .mapUpdate .. | .insert .. | .makeSlice .. | .range .. | .next .. | .typeAssert .. | .panic .. =>false
 | .call {callee:=.builtin b, ..}=>match b with| .len=>true|_=>false
 | .call {callee:=.value f, ..}=>match f with| .func g=> !imp.l.contains g|_=>false
 |_=>true
def JA:Op→Bool
 | .load .. | .convert .. | .lookup .. | .call _=>false
 |_=>true
def SB(ops:Array Oper)(j i:Nat):Bool:=match ops[j]? with|some o=>o.after.any (fun e=>Region.binds .any e&&e.on==i)|none=>false
def Y9(ops:Array Oper)(j:Nat):Bool:=(List.range ops.size).all fun i=>i==j||SB ops j i||SB ops i j||(match ops[i]? with|some o=>JA o.op|none=>true)
def J4:List (Nat×Nat)→Nat→Bool
 | [],_=>false
 |(i,m)::l,j=>(i==j&&m==2)||J4 l j
def Hk(imp:Imp)(ops:Array Oper)(rs:Nat→Bool):List (Nat×Nat)→Array Bool→Bool
 | [],listed=>(Region.ready .any ops listed).isEmpty
 |(i,m)::l,listed=>(match ops[i]? with
  |some o=>if B4 imp o.op then(Region.ready .any ops listed).contains i&&Region.free .any ops listed i else Region.ready .any ops listed==[i]&&(if m=2 then rs i else true)
  |none=>false)&&Hk imp ops rs l (listed.setIfInBounds i true)
def Ew(ops:Array Oper)(rs:Nat→Bool):Bool:=(List.range ops.size).all fun j=> !rs j||Y9 ops j
def F8(As A':AH)(m:Nat)(K:AH→Prop):Prop:=if m=2 then K A' else Br (SubA As A') (if m=1 then K A' else K As)
noncomputable def KD(P:Program)(imp:Imp)(nt:Nat)(As:AH)(m:Nat)(ν:Nu)(n:Nat)(ρ:Bc)(A:AH)(K:AH→Nu→Nat→Bc→AH→Prop)(o:Option Oper):Prop:=match o with
 |some o=>if B4 imp o.op=true then CJ P nt o ρ As fun ρ'=>K As ν n ρ' A else CB P imp nt o ν n ρ A fun ν n ρ' A'=>F8 As A' m fun As'=>K As' ν n ρ' A'
 |none=>False
noncomputable def FN(P:Program)(imp:Imp)(nt:Nat)(all:List Oper)(As:AH)(m:Nat)(ν:Nu)(n:Nat)(ρ:Bc)(A:AH)(K:AH→Nu→Nat→Bc→AH→Prop)(o:Option Oper):Prop:=match o with
 |some o=>match o.guard with
  |none=>KD P imp nt As m ν n ρ A K (some o)
  |some (j,want)=>A9 (C2 all j) fun s=>A9 (get ρ s) fun v=>mT want v (KD P imp nt As m ν n ρ A K (some o)) (BL nt o.dst undef ρ fun ρ'=>K As ν n ρ' A)
 |none=>False
noncomputable def Dw(P:Program)(imp:Imp)(nt:Nat)(all:List Oper):List (Nat×Nat)→AH→Nu→Nat→Bc→AH→(Nu→Nat→Bc→AH→Prop)→Prop
 | [],_,ν,n,ρ,A,K=>K ν n ρ A
 |(i,m)::l,As,ν,n,ρ,A,K=>FN P imp nt all As m ν n ρ A (fun As ν n ρ' A=>Dw P imp nt all l As ν n ρ' A K) all[i]?
inductive Pln where
 |q (sp:Bool)
 |p (l:List (Nat×Nat))
def HU:List (Nat×Pln)→Nat→Option Pln
 | [],_=>none
 |(i,p)::l,j=>if i=j then some p else HU l j
structure CxA where
 P:Program
 f:FuncId
 fn:Func
 n:Nat
 live:List Nat
 imp:Imp
 plans:List (Nat×Pln)
 R:Value→AH→Prop
def CxA.cx(c:CxA)(A0:AH)(h0:AX):Cx:=⟨c.P,c.f,c.fn,c.n,c.live,de c.imp.X A0 h0 c.R⟩
def At[dd:DefD]{c:CxA}{body:Code}{k:List It}(ρ:Bc)(A:AH)(_t:Tg (c,body,k)):Prop:= ∀A0 h0 h,Dq A h→Cc A0 h0 A h→ @Bx dd (c.cx A0 h0) body k ρ h ()
def C3[dd:DefD]{c:CxA}{k:List It}(ρ:Bc)(A:AH)(_t:Tg (c,k)):Prop:= ∀A0 h0 h,Dq A h→Cc A0 h0 A h→ @Hy dd (c.cx A0 h0) k ρ h ()
def b8(c:CxA)(ρ:Bc)(A:AH):Prop:=A9 (HX c.P ρ A c.fn.results.toList) fun vs=>c.R (one vs) A
noncomputable def Bt[dd:DefD](c:CxA)(k:List It)(ν:Nu)(n:Nat)(ρ:Bc)(A:AH):Prop:=
 match _hk:k with
 | []=>b8 c ρ A
 | .blk _::k=>Bt c k ν n ρ A
 | .sc _::k=>Bt c k ν n ρ A
 | .lp body::k=> @At dd c body k (canon c.live ρ) A ()
 | .code .skip::k=>Bt c k ν n ρ A
 | .code (.label _)::k=>Bt c k ν n ρ A
 | .code .ret::_=>b8 c ρ A
 | .code (.seq x y)::k=>Bt c (.code x:: .code y::k) ν n ρ A
 | .code (.cond x t e)::k=>A9 (BM ρ x) fun v=>Sx v (Bt c (.code t::k) ν n ρ A) (Bt c (.code e::k) ν n ρ A)
 | .code (.block id b)::k=>Bt c (.code b:: .blk id::k) ν n ρ A
 | .code (.scope b)::k=>Bt c (.code b:: .sc b::k) ν n ρ A
 | .code (.loop body)::k=> @At dd c body k (canon c.live ρ) A ()
 | .code (.exit id)::k=>match _he:DG id k with
  |some k'=>Bt c k' ν n ρ A
  |none=>False
 | .code (.region _ ops false)::k=>Bl c.P c.imp c.n ops.toList 400 none ops.toList ν n (canon c.live ρ) A (fun ν n ρ' A=>Bt c k ν n ρ' A)
 | .code (.region id ops true)::k=>match HU c.plans id with
  |some (.q sp)=>CL c.P c.n sp ops.toList A 400 none ops.toList (canon c.live ρ) (fun ρ'=>Bt c k ν n ρ' A)
  |some (.p pl)=>Dw c.P c.imp c.n ops.toList pl A ν n (canon c.live ρ) A (fun ν n ρ' A=>Bt c k ν n ρ' A)
  |none=> @C3 dd c (.code (.region id ops true)::k) (canon c.live ρ) A ()
 | .code _::_=>False
termination_by LZ k
decreasing_by
 all_goals simp only[LZ,O0,J1]<;>(try omega)
 have:=FW _ _ _ ‹_›
 omega
def Uf(P:Program)(imp:Imp)(plans:List (Nat×Pln)):Code→Bool
 | .region id ops true=>match HU plans id with
  |some (.q _)=>P.follows .mixedOrders&&Region.lexB .any ops
  |some (.p pl)=>P.follows .mixedOrders&&(Region.noSelect ops&&(pl.length==ops.size&&(Ew ops (J4 pl)&&Hk imp ops (J4 pl) pl (Array.replicate ops.size false))))
  |none=>true
 | .seq a b=>Uf P imp plans a&&Uf P imp plans b
 | .cond _ a b=>Uf P imp plans a&&Uf P imp plans b
 | .block _ b=>Uf P imp plans b
 | .scope b=>Uf P imp plans b
 | .loop b=>Uf P imp plans b
 |_=>true
def cA(P:Program)(imp:Imp)(plans:List (Nat×Pln)):It→Bool
 | .code c=>Uf P imp plans c
 |_=>true
def Ro(P:Program)(imp:Imp)(plans:List (Nat×Pln)):List It→Bool
 | []=>true
 |x::k=>cA P imp plans x&&Ro P imp plans k
noncomputable def bP[dd:DefD](c:CxA)(k:Option (List It))(ν:Nu)(n:Nat)(ρ:Bc)(A:AH):Prop:=match k with|some k=>Bt c k ν n ρ A|none=>False
end Go.Vm
