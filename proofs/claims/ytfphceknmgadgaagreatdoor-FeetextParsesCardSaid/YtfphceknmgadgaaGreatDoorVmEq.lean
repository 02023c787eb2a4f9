/-
The evaluator's equations, for simp.
Conditions: none. Generic: it speaks of no program.
-/
import Derived.Test.YtfphceknmgadgaaGreatDoorVmRun
set_option linter.unusedSimpArgs false
set_option linter.unusedVariables false
namespace Go.Vm
def nM(all:List Oper)(s j:Nat)(want:Bool)(sk:List Nat)(d:Nat)(l:List Oper)(o:Option Nat):Bool:=match o with|some s'=>if s'∈sk then Cn all s j want (d::sk) l else false|none=>false
section
variable (c:Cx) (k:List It) (ρ:Ba) (h:AY)
theorem Vc[dd:DefD]:C8 c [] ρ h=Tr c ρ h:=by rw[C8]
theorem Vi[dd:DefD](id:Nat):C8 c (.blk id::k) ρ h=C8 c k ρ h:=by rw[C8]
theorem cF[dd:DefD](b:Code):C8 c (.sc b::k) ρ h=C8 c k ρ h:=by rw[C8]
theorem bS[dd:DefD](b:Code):C8 c (.lp b::k) ρ h=Dk (canon c.live ρ) fun ρ=> @Bh dd c b k ρ h ():=by rw[C8];rfl
theorem TK[dd:DefD]:C8 c (.code .skip::k) ρ h=C8 c k ρ h:=by rw[C8]
theorem Pf[dd:DefD](l:Nat):C8 c (.code (.label l)::k) ρ h=C8 c k ρ h:=by rw[C8]
theorem W9[dd:DefD]:C8 c (.code .ret::k) ρ h=Tr c ρ h:=by rw[C8]
theorem Vn[dd:DefD](x y:Code):C8 c (.code (.seq x y)::k) ρ h=C8 c (.code x:: .code y::k) ρ h:=by rw[C8]
theorem QU[dd:DefD](x:Operand)(t e:Code):C8 c (.code (.cond x t e)::k) ρ h=Ay (BE ρ x) fun v=>QG v (C8 c (.code t::k) ρ h) (C8 c (.code e::k) ρ h):=by rw[C8]
theorem Oz[dd:DefD](id:Nat)(b:Code):C8 c (.code (.block id b)::k) ρ h=C8 c (.code b:: .blk id::k) ρ h:=by rw[C8]
theorem Pd[dd:DefD](b:Code):C8 c (.code (.scope b)::k) ρ h=C8 c (.code b:: .sc b::k) ρ h:=by rw[C8]
theorem QQ[dd:DefD](b:Code):C8 c (.code (.loop b)::k) ρ h=Dk (canon c.live ρ) fun ρ=> @Bh dd c b k ρ h ():=by rw[C8];rfl
theorem MF[dd:DefD](id:Nat)(ops:List Oper):C8 c (.code (.region id ops.toArray false)::k) ρ h=
  Dk (canon c.live ρ) fun ρ=>B7 c.P c.n ops 400 none ops ρ h (fun ρ' h'=>C8 c k ρ' h') fun ch h'=>c.R (.panicked ch) h':=by rw[C8];rfl
theorem Ku[dd:DefD](id:Nat)(ops:Array Oper):C8 c (.code (.region id ops true)::k) ρ h=Dk (canon c.live ρ) fun ρ=> @Gg dd c (.code (.region id ops true)::k) ρ h ():=by rw[C8];rfl
theorem SF[dd:DefD](id:Nat):C8 c (.code (.exit id)::k) ρ h=fP c (Cu id k) ρ h:=by
 rw[C8];cases Cu id k<;>rfl
end
section
variable (P:Program) (n:Nat) (all:List Oper) (m:Nat) (ρ:Ba) (h:AY) (K:Ba→AY→Prop) (X:List PanicEntry→AY→Prop)
variable (dst:Option Nat) (ty:TypeId) (pos:String) (aft:Array Edge) (gd:Option (Nat×Bool)) (rest:List Oper)
theorem L9(cur:Option (Nat×Bool)):B7 P n all (m+1) cur [] ρ h K X=K ρ h:=rfl
theorem Jd(op:Op):B7 P n all (m+1) none (⟨dst,op,ty,pos,aft,none⟩::rest) ρ h K X=
  BZ P n ⟨dst,op,ty,pos,aft,none⟩ ρ h (fun ρ' h'=>B7 P n all m none rest ρ' h' K X) X:=by simp[B7]
theorem O9(op:Op)(g:Nat×Bool):B7 P n all (m+1) (some g) (⟨dst,op,ty,pos,aft,some g⟩::rest) ρ h K X=
  BZ P n ⟨dst,op,ty,pos,aft,some g⟩ ρ h (fun ρ' h'=>B7 P n all m (some g) rest ρ' h' K X) X:=by simp[B7]
def mV(cur:Option (Nat×Bool))(j:Nat)(want:Bool)(g after:List Oper)(s:Nat)(b:Bool):Prop:=
 Bf (Cn all s j want [] g=true) (match EC g,after with
 |true,p::after'=>match Cs want s p.op with
  |some y=>B7 P n all m (some (j,want)) g ρ h (fun ρ' h'=>Ay (BE ρ' y) fun c=>C9 n p.dst want b c (DR g ρ) fun ρ''=>B7 P n all m cur after' ρ'' h' K X) X
  |none=>False
 |_,after=>Jx (b==want) (B7 P n all m (some (j,want)) g ((s,some (.bool want))::ρ) h (fun ρ' h'=>B7 P n all m cur after ρ' h' K X) X) (B7 P n all m cur after (DR g ((s,some (.bool (!want)))::ρ)) h K X))
def nf(cur:Option (Nat×Bool))(j:Nat)(want:Bool)(g after:List Oper)(s:Nat)(v:Value):Prop:=
 match v with| .bool b=>mV P n all m ρ h K X cur j want g after s b|_=>False
theorem Na(cur:Option (Nat×Bool))(j:Nat)(want:Bool)(g after:List Oper)(s:Nat)(b:Bool):
  nf P n all m ρ h K X cur j want g after s (.bool b)=mV P n all m ρ h K X cur j want g after s b:=rfl
theorem Hb(op:Op)(cur:Option (Nat×Bool))(j:Nat)(want:Bool)(hne: ¬some (j,want)=cur):B7 P n all (m+1) cur (⟨dst,op,ty,pos,aft,some (j,want)⟩::rest) ρ h K X=
  Ay (Cj all j) fun s=>Ay (get ρ s) fun v=>nf P n all m ρ h K X cur j want
   (⟨dst,op,ty,pos,aft,some (j,want)⟩::Bl cur rest) (CJ cur rest) s v:=by
 have h1:Bl cur (⟨dst,op,ty,pos,aft,some (j,want)⟩::rest)=⟨dst,op,ty,pos,aft,some (j,want)⟩::Bl cur rest:=by simp[Bl,hne]
 have h2:CJ cur (⟨dst,op,ty,pos,aft,some (j,want)⟩::rest)=CJ cur rest:=by simp[CJ,hne]
 rw[B7,if_neg hne,h1,h2]
 congr 1
theorem KN(op:Op)(j:Nat)(want:Bool):B7 P n all (m+1) none (⟨dst,op,ty,pos,aft,some (j,want)⟩::rest) ρ h K X=
  Ay (Cj all j) fun s=>Ay (get ρ s) fun v=>nf P n all m ρ h K X none j want
   (⟨dst,op,ty,pos,aft,some (j,want)⟩::Bl none rest) (CJ none rest) s v:=Hb P n all m ρ h K X dst ty pos aft rest op none j want (by simp)
theorem Pb(cur:Option (Nat×Bool)):Bl cur []=[]:=rfl
theorem LV(cur:Option (Nat×Bool))(op:Op):Bl cur (⟨dst,op,ty,pos,aft,gd⟩::rest)=if gd=cur then []else⟨dst,op,ty,pos,aft,gd⟩::Bl cur rest:=rfl
theorem O3(cur:Option (Nat×Bool)):CJ cur []=[]:=rfl
theorem L1(cur:Option (Nat×Bool))(op:Op):CJ cur (⟨dst,op,ty,pos,aft,gd⟩::rest)=if gd=cur then⟨dst,op,ty,pos,aft,gd⟩::rest else CJ cur rest:=rfl
theorem Kp(op:Op):Cj (⟨dst,op,ty,pos,aft,gd⟩::rest) 0=dst:=rfl
theorem Kc(o:Oper)(j:Nat):Cj (o::rest) (j+1)=Cj rest j:=rfl
theorem NX:EC []=true:=rfl
theorem MH(op:Op):EC (⟨dst,op,ty,pos,aft,gd⟩::rest)=(Ch op&&EC rest):=rfl
theorem Ud(x:Operand):BZ P n ⟨dst,.move x,ty,pos,aft,gd⟩ ρ h K X=Ay (BE ρ x) fun v=>BJ n dst v ρ fun ρ'=>K ρ' h:=rfl
theorem PG(x:Operand):BZ P n ⟨dst,.assign x,ty,pos,aft,gd⟩ ρ h K X=Ay (BE ρ x) fun v=>BJ n dst v ρ fun ρ'=>K ρ' h:=rfl
theorem Wn(x a b:Operand):BZ P n ⟨dst,.pick x a b,ty,pos,aft,gd⟩ ρ h K X=Ay (BE ρ x) fun v=>QG v (Ay (BE ρ a) fun u=>BJ n dst u ρ fun ρ'=>K ρ' h) (Ay (BE ρ b) fun u=>BJ n dst u ρ fun ρ'=>K ρ' h):=rfl
theorem Sb(e:TypeId):BZ P n ⟨dst,.alloc e,ty,pos,aft,gd⟩ ρ h K X=Ay (DD P e) fun z=>BJ n dst (.pointer (some ⟨h.size,0,none⟩)) ρ fun ρ'=>K ρ' (h.push (.cells z.cells e)):=rfl
theorem YT(e:TypeId)(x:Operand):BZ P n ⟨dst,.box e x,ty,pos,aft,gd⟩ ρ h K X=Ay (BE ρ x) fun v=>BJ n dst (.pointer (some ⟨h.size,0,none⟩)) ρ fun ρ'=>K ρ' (h.push (.cells v.cells e)):=rfl
theorem Qi(t:TypeId)(ps:List (Nat×Operand)):BZ P n ⟨dst,.build t ps.toArray,ty,pos,aft,gd⟩ ρ h K X=Ay (AW ρ ps) fun vs=>Ay (ah P t vs) fun v=>BJ n dst v ρ fun ρ'=>K ρ' h:=rfl
theorem HJ(t:TypeId)(l:Nat)(ps:List (Nat×Operand)):BZ P n ⟨dst,.buildSlice t l ps.toArray,ty,pos,aft,gd⟩ ρ h K X=Ay (AW ρ ps) fun vs=>Ay (Cy P t l vs) fun r=>BJ n dst (.slice (some ⟨h.size,0,none⟩) l l) ρ fun ρ'=>K ρ' (h.push (.cells r.2 r.1)):=rfl
theorem Wu(t:TypeId)(x:Operand):BZ P n ⟨dst,.load t x,ty,pos,aft,gd⟩ ρ h K X=Ay (BE ρ x) fun p=>Ay (DW p) fun a=>Ay (JW P h t a) fun v=>BJ n dst v ρ fun ρ'=>K ρ' h:=rfl
theorem RP(t:TypeId)(x y:Operand):BZ P n ⟨dst,.store t x y,ty,pos,aft,gd⟩ ρ h K X=Ay (BE ρ x) fun p=>Ay (DW p) fun a=>Ay (BE ρ y) fun v=>Ay (Cw P t) fun s=>Bf (v.cells.size=s.2) (Ay (Fq h a v.cells.toList) fun h'=>BJ n dst undef ρ fun ρ'=>K ρ' h'):=rfl
theorem KY(x:Operand):BZ P n ⟨dst,.nilCheck x,ty,pos,aft,gd⟩ ρ h K X=Ay (BE ρ x) fun p=>Ay (DW p) fun _=>BJ n dst p ρ fun ρ'=>K ρ' h:=rfl
theorem RK(op:BinOp)(t:TypeId)(x y:Operand)(t':TypeId):BZ P n ⟨dst,.binOp op t x y t',ty,pos,aft,gd⟩ ρ h K X=Ay (BE ρ x) fun a=>Ay (BE ρ y) fun b=>Cg P op t a b fun v=>BJ n dst v ρ fun ρ'=>K ρ' h:=rfl
theorem UH(op:UnOp)(t:TypeId)(x:Operand):BZ P n ⟨dst,.unOp op t x,ty,pos,aft,gd⟩ ρ h K X=Ay (BE ρ x) fun v=>Ay (oL op v) fun u=>BJ n dst u ρ fun ρ'=>K ρ' h:=rfl
theorem Lm(s d:TypeId)(x:Operand):BZ P n ⟨dst,.convert s d x,ty,pos,aft,gd⟩ ρ h K X=Ay (BE ρ x) fun v=>Qq P s d v h fun u h'=>BJ n dst u ρ fun ρ'=>K ρ' h':=rfl
theorem Fh(t:TypeId)(x:Operand):BZ P n ⟨dst,.makeInterface t x,ty,pos,aft,gd⟩ ρ h K X=Ay (BE ρ x) fun v=>Bf (P.concrete t=true) (BJ n dst (.iface t v) ρ fun ρ'=>K ρ' h):=rfl
theorem Ko(fn:Fn)(fs cs:List Operand):BZ P n ⟨dst,.makeFunc fn fs.toArray cs.toArray,ty,pos,aft,gd⟩ ρ h K X=Ay (GA ρ fs) fun us=>Ay (GA ρ cs) fun vs=>BJ n dst (.func fn us.toArray vs.toArray) ρ fun ρ'=>K ρ' h:=rfl
theorem Ly(t:TypeId):BZ P n ⟨dst,.makeMap t none,ty,pos,aft,gd⟩ ρ h K X=BJ n dst (.map (some h.size)) ρ fun ρ'=>K ρ' (h.push (.map #[] 0)):=rfl
theorem JJ(t:TypeId)(l c:Operand):BZ P n ⟨dst,.makeSlice t l c,ty,pos,aft,gd⟩ ρ h K X=Ay (BE ρ l) fun lv=>Ay (BE ρ c) fun cv=>DA P (Instr.makeSlice t lv cv) h fun v h'=>BJ n dst v ρ fun ρ'=>K ρ' h':=rfl
theorem Sr(t:TypeId)(x:Operand)(lo hi:Option Operand):BZ P n ⟨dst,.slice t x lo hi none,ty,pos,aft,gd⟩ ρ h K X=Ay (BE ρ x) fun v=>Ay (Ea ρ lo) fun l=>Ay (Ea ρ hi) fun r=>bA P t v l r fun u=>BJ n dst u ρ fun ρ'=>K ρ' h:=rfl
theorem JY(t:TypeId)(x:Operand)(i:Nat):BZ P n ⟨dst,.fieldAddr t x i,ty,pos,aft,gd⟩ ρ h K X=Ay (BE ρ x) fun p=>Ay (DW p) fun a=>Ay (Cd P t i) fun f=>Bf (f.2.2≠0) (BJ n dst (.pointer (some (a.add f.1))) ρ fun ρ'=>K ρ' h):=rfl
theorem SM(t:TypeId)(x:Operand)(i:Nat):BZ P n ⟨dst,.field t x i,ty,pos,aft,gd⟩ ρ h K X=Ay (BE ρ x) fun v=>Ay (cK P t i v) fun u=>BJ n dst u ρ fun ρ'=>K ρ' h:=rfl
theorem Hz(t:TypeId)(x i:Operand):BZ P n ⟨dst,.indexAddr t x i,ty,pos,aft,gd⟩ ρ h K X=Ay (BE ρ x) fun v=>Ay (BE ρ i) fun j=>NF P t v j fun u=>BJ n dst u ρ fun ρ'=>K ρ' h:=rfl
theorem Q0(t:TypeId)(x i:Operand):BZ P n ⟨dst,.index t x i,ty,pos,aft,gd⟩ ρ h K X=Ay (BE ρ x) fun v=>Ay (BE ρ i) fun j=>NH P t v j fun u=>BJ n dst u ρ fun ρ'=>K ρ' h:=rfl
theorem OY(t:TypeId)(x i:Operand)(ok:Bool):BZ P n ⟨dst,.lookup t x i ok,ty,pos,aft,gd⟩ ρ h K X=Ay (BE ρ x) fun v=>Ay (BE ρ i) fun k=>DA P (Instr.lookup t v k ok) h fun u h'=>BJ n dst u ρ fun ρ'=>K ρ' h':=rfl
theorem Hp(t:TypeId)(x i y:Operand):BZ P n ⟨dst,.mapUpdate t x i y,ty,pos,aft,gd⟩ ρ h K X=Ay (BE ρ x) fun m=>Ay (BE ρ i) fun k=>Ay (BE ρ y) fun v=>DA P (do Instr.mapUpdate t m k v;Pure.pure undef) h fun u h'=>BJ n dst u ρ fun ρ'=>K ρ' h':=rfl
theorem NV(t:TypeId)(x i y:Operand):BZ P n ⟨dst,.insert t x i y,ty,pos,aft,gd⟩ ρ h K X=Ay (BE ρ x) fun m=>Ay (BE ρ i) fun k=>Ay (BE ρ y) fun v=>DA P (do Instr.mapUpdate t m k v;Pure.pure undef) h fun u h'=>BJ n dst u ρ fun ρ'=>K ρ' h':=rfl
theorem Q3(t:TypeId)(x:Operand):BZ P n ⟨dst,.range t x,ty,pos,aft,gd⟩ ρ h K X=Ay (BE ρ x) fun v=>DA P (Instr.range t v) h fun u h'=>BJ n dst u ρ fun ρ'=>K ρ' h':=rfl
theorem WW(x:Operand)(s:Bool):BZ P n ⟨dst,.next x s,ty,pos,aft,gd⟩ ρ h K X=Ay (BE ρ x) fun v=>DA P (Instr.next v s ty) h fun u h'=>BJ n dst u ρ fun ρ'=>K ρ' h':=rfl
theorem HG(x:Operand)(t a:TypeId)(ok:Bool):BZ P n ⟨dst,.typeAssert x t a ok,ty,pos,aft,gd⟩ ρ h K X=Ay (BE ρ x) fun v=>DA P (Instr.typeAssert v t a ok) h fun u h'=>BJ n dst u ρ fun ρ'=>K ρ' h':=rfl
def oG(v:Value)(i:Nat)(K:Value→Prop):Prop:=match v with| .tuple vs=>Ay vs[i]? K|_=>False
theorem TQ(v:Value)(l:List Value)(K:Value→Prop):oG (.tuple (List.toArray (v::l))) 0 K=K v:=rfl
theorem Si(v:Value)(l:List Value)(i:Nat)(K:Value→Prop):oG (.tuple (List.toArray (v::l))) (i+1) K=oG (.tuple l.toArray) i K:=by simp[oG]
theorem Lr(x:Operand)(i:Nat):BZ P n ⟨dst,.extract x i,ty,pos,aft,gd⟩ ρ h K X=Ay (BE ρ x) fun v=>oG v i fun u=>BJ n dst u ρ fun ρ'=>K ρ' h:=by
 unfold BZ HL oG;rfl
theorem ZC(x:Operand)(t:TypeId):BZ P n ⟨dst,.call ⟨.builtin .len,#[x],#[t]⟩,ty,pos,aft,gd⟩ ρ h K X=Ay (BE ρ x) fun v=>GM P t v h fun u=>BJ n dst u ρ fun ρ'=>K ρ' h:=by
 unfold BZ HL
 simp only[GA]
 cases BE ρ x<;>simp[Ay,Dy]
theorem OA(xs:List Operand)(ts:Array TypeId):BZ P n ⟨dst,.call ⟨.builtin .append,xs.toArray,ts⟩,ty,pos,aft,gd⟩ ρ h K X=Ay (GA ρ xs) fun vs=>DA P (Builtin.append_ ts ty vs.toArray) h fun v h'=>BJ n dst v ρ fun ρ'=>K ρ' h':=rfl
theorem Yf(xs:List Operand)(ts:Array TypeId):BZ P n ⟨dst,.call ⟨.builtin .cap,xs.toArray,ts⟩,ty,pos,aft,gd⟩ ρ h K X=Ay (GA ρ xs) fun vs=>DA P (Builtin.cap_ ts ty vs.toArray) h fun v h'=>BJ n dst v ρ fun ρ'=>K ρ' h':=rfl
theorem WC(xs:List Operand)(ts:Array TypeId):BZ P n ⟨dst,.call ⟨.builtin .copy,xs.toArray,ts⟩,ty,pos,aft,gd⟩ ρ h K X=Ay (GA ρ xs) fun vs=>DA P (Builtin.copy_ ts ty vs.toArray) h fun v h'=>BJ n dst v ρ fun ρ'=>K ρ' h':=rfl
theorem OV(xs:List Operand)(ts:Array TypeId):BZ P n ⟨dst,.call ⟨.builtin .delete,xs.toArray,ts⟩,ty,pos,aft,gd⟩ ρ h K X=Ay (GA ρ xs) fun vs=>DA P (Builtin.delete_ ts ty vs.toArray) h fun v h'=>BJ n dst v ρ fun ρ'=>K ρ' h':=rfl
theorem XL(f:Operand)(xs:List Operand)(ts:Array TypeId):BZ P n ⟨dst,.call ⟨.value f,xs.toArray,ts⟩,ty,pos,aft,gd⟩ ρ h K X=Ay (BE ρ f) fun fv=>Ay (GA ρ xs) fun vs=>TB P fv vs h (@el n dst ρ K X ()):=rfl
def mq(v:Value)(X:List PanicEntry→Prop):Prop:=match v with| .iface t u=>X [{v:=.iface t u,recovered:=false}]|_=>False
theorem Ml(t:TypeId)(u:Value)(X:List PanicEntry→Prop):mq (.iface t u) X=X [{v:=.iface t u,recovered:=false}]:=rfl
theorem Sa(x:Operand):BZ P n ⟨dst,.panic x,ty,pos,aft,gd⟩ ρ h K X=Ay (BE ρ x) fun v=>mq v fun ch=>X ch h:=by
 unfold BZ mq;rfl
theorem Og(d:Nat)(v:Value)(k:Ba→Prop):BJ n (some d) v ρ k=Bf (d<n) (k ((d,some v)::ρ)):=rfl
theorem OR(v:Value)(k:Ba→Prop):BJ n none v ρ k=k ρ:=rfl
theorem QH(v:Value): @el n dst ρ K X () (.returned v) h=BJ n dst v ρ fun ρ'=>K ρ' h:=rfl
theorem Rj(ch:List PanicEntry): @el n dst ρ K X () (.panicked ch) h=X ch h:=rfl
theorem Mg(want b c:Bool)(k:Ba→Prop):C9 n dst want b (.bool c) ρ k=BJ n dst (.bool (De want b c)) ρ k:=rfl
theorem MJ(b c:Bool):De true b c=(b&&c):=rfl
theorem Km(b c:Bool):De false b c=(b||c):=rfl
theorem MG(g:FuncId)(fs vs cs:List Value)(Q:Ending→AY→Prop):TB P (.func (.func g) fs.toArray cs.toArray) vs h Q=if AD P g=true then Bj P g (fs++vs++cs).toArray h Q else bx P g (fs++vs++cs).toArray h Q:=by
 simp[TB]
theorem Wj(t:Nat):get [] t=none:=rfl
theorem Ab(s:Nat)(v:Option Value)(t:Nat):get ((s,v)::ρ) t=if s=t then v else get ρ t:=rfl
theorem PV:canon [] ρ=[]:=rfl
theorem Mo(s:Nat)(l:List Nat):canon (s::l) ρ=RN s (get ρ s) (canon l ρ):=rfl
theorem Md(s:Nat)(v:Value):RN s (some v) ρ=(s,some v)::ρ:=rfl
theorem L6(s:Nat):RN s none ρ=ρ:=rfl
theorem Uu(t:Nat):BE ρ (.tmp t)=get ρ t:=rfl
theorem Nx(v:Value):BE ρ (.const v)=some v:=rfl
theorem Mp(g:Nat):BE ρ (.global g)=some (.pointer (some ⟨g,0,none⟩)):=rfl
theorem RC(f:Nat):BE ρ (.func f)=some (.func (.func f) (List.toArray []) (List.toArray [])):=rfl
theorem WU:GA ρ []=some []:=rfl
theorem Rp(x:Operand)(l:List Operand):GA ρ (x::l)=Dy (BE ρ x) (GA ρ l):=rfl
theorem Mc(v:Value)(l:List Value):Dy (some v) (some l)=some (v::l):=rfl
theorem XG:AW ρ []=some []:=rfl
theorem R9(i:Nat)(x:Operand)(l:List (Nat×Operand)):AW ρ ((i,x)::l)=Om i (BE ρ x) (AW ρ l):=rfl
theorem L0(i:Nat)(v:Value)(l:List (Nat×Value)):Om i (some v) (some l)=some ((i,v)::l):=rfl
theorem NS:Ea ρ none=some none:=rfl
theorem OL(x:Operand):Ea ρ (some x)=(BE ρ x).map some:=rfl
theorem U9(c:Cx):Tr c ρ h=Ay (JB c.P ρ h c.fn.results.toList) fun vs=>c.R (.returned (one vs)) h:=rfl
theorem Qa:JB P ρ h []=some []:=rfl
theorem Ol(r:ResultVar)(l:List ResultVar):JB P ρ h (r::l)=Dy (P5 P ρ h r) (JB P ρ h l):=rfl
theorem S2(t:Nat):P5 P ρ h (.tmp t)=get ρ t:=rfl
theorem Ob(s:Nat)(t:TypeId):P5 P ρ h (.cell s t)=qU P h t (O4 (get ρ s)):=rfl
theorem Mx(p:Value):O4 (some p)=DW p:=rfl
theorem R3(t:TypeId)(a:Addr):qU P h t (some a)=JW P h t a:=rfl
theorem Uv(v:Value):one [v]=v:=rfl
theorem W0(v u:Value):one [v,u]=.tuple #[v,u]:=rfl
theorem Nn(v u x:Value):one [v,u,x]=.tuple #[v,u,x]:=rfl
theorem Qz(v u x y:Value):one [v,u,x,y]=.tuple #[v,u,x,y]:=rfl
theorem Kj(a:Addr):DW (.pointer (some a))=some a:=rfl
theorem Fa(b o i:Nat):(⟨b,o,none⟩:Addr).add i=⟨b,o+i,none⟩:=by
 unfold Addr.add;split
 ·rename_i h;subst h;rfl
 ·rfl
end
section
variable (P:Program) (t:TypeId) (k:IntKind) (a b:Int) (x y:ByteArray) (K:Value→Prop)
theorem XR:Cg P .add t (.int k a) (.int k b) K=K (.int k (k.wrap (a+b))):=by simp[Cg,Bf]
theorem Vh:Cg P .sub t (.int k a) (.int k b) K=K (.int k (k.wrap (a - b))):=by simp[Cg,Bf]
theorem WH:Cg P .mul t (.int k a) (.int k b) K=K (.int k (k.wrap (a*b))):=by simp[Cg,Bf]
theorem UL:Cg P .quo t (.int k a) (.int k b) K=Bf (b≠0) (K (.int k (k.wrap (a.tdiv b)))):=by simp[Cg,Bf]
theorem W2:Cg P .rem t (.int k a) (.int k b) K=Bf (b≠0) (K (.int k (a.tmod b))):=by simp[Cg,Bf]
theorem UT:Cg P .eql t (.int k a) (.int k b) K=K (.bool (a==b)):=by simp[Cg,Bf]
theorem XB:Cg P .neq t (.int k a) (.int k b) K=K (.bool (a !=b)):=by simp[Cg,Bf]
theorem Ur:Cg P .lss t (.int k a) (.int k b) K=K (.bool (decide (a<b))):=by simp[Cg,Bf]
theorem VK:Cg P .leq t (.int k a) (.int k b) K=K (.bool (decide (a≤b))):=by simp[Cg,Bf]
theorem VP:Cg P .gtr t (.int k a) (.int k b) K=K (.bool (decide (b<a))):=by simp[Cg,Bf]
theorem UX:Cg P .geq t (.int k a) (.int k b) K=K (.bool (decide (b≤a))):=by simp[Cg,Bf]
theorem Uz:Cg P .and t (.int k a) (.int k b) K=K (.int k (k.wrap (BitVec.ofInt k.bits a &&& BitVec.ofInt k.bits b).toNat)):=by simp[Cg,Bf]
theorem dt:Cg P .or t (.int k a) (.int k b) K=K (.int k (k.wrap (BitVec.ofInt k.bits a ||| BitVec.ofInt k.bits b).toNat)):=by simp[Cg,Bf]
theorem Wm(k':IntKind):Cg P .shl t (.int k a) (.int k' b) K=Bf (0≤b) (K (.int k (k.wrap (a*2 ^ (min b.toNat k.bits))))):=rfl
theorem WZ(k':IntKind):Cg P .shr t (.int k a) (.int k' b) K=Bf (0≤b) (K (.int k (a.fdiv (2 ^ (min b.toNat k.bits))))):=rfl
theorem SX:Cg P .add t (.string x) (.string y) K=Bf (x.size+y.size≤9223372036854775807) (K (.string (x++y))):=rfl
theorem Q2:Cg P .eql t (.string x) (.string y) K=K (.bool (x.toList==y.toList)):=rfl
theorem Ru:Cg P .neq t (.string x) (.string y) K=K (.bool (!(x.toList==y.toList))):=rfl
theorem RR:Cg P .lss t (.string x) (.string y) K=K (.bool (Op.bytesLess x.toList y.toList)):=rfl
theorem Sp:Cg P .leq t (.string x) (.string y) K=K (.bool (Op.bytesLess x.toList y.toList||x.toList==y.toList)):=rfl
theorem Rf:Cg P .gtr t (.string x) (.string y) K=K (.bool (!(Op.bytesLess x.toList y.toList||x.toList==y.toList))):=rfl
theorem TR:Cg P .geq t (.string x) (.string y) K=K (.bool (!(Op.bytesLess x.toList y.toList))):=rfl
end
section
variable (P:Program) (t:TypeId) (K:Value→Prop)
theorem Q1(a b:Bool):Cg P .eql t (.bool a) (.bool b) K=Ay (He P 10000 t (.bool a) (.bool b)) fun b=>K (.bool (b)):=by
 show Bf (D7 P t (.bool a) (.bool b)=true) _=_
 rw[show(D7 P t (.bool a) (.bool b)=true)=True from eq_true rfl,Db]
theorem TG(a b:Bool):Cg P .neq t (.bool a) (.bool b) K=Ay (He P 10000 t (.bool a) (.bool b)) fun b=>K (.bool (!b)):=by
 show Bf (D7 P t (.bool a) (.bool b)=true) _=_
 rw[show(D7 P t (.bool a) (.bool b)=true)=True from eq_true rfl,Db]
theorem Qd(p q:Option Addr):Cg P .eql t (.pointer p) (.pointer q) K=Ay (He P 10000 t (.pointer p) (.pointer q)) fun b=>K (.bool (b)):=by
 show Bf (D7 P t (.pointer p) (.pointer q)=true) _=_
 rw[show(D7 P t (.pointer p) (.pointer q)=true)=True from eq_true rfl,Db]
theorem SR(p q:Option Addr):Cg P .neq t (.pointer p) (.pointer q) K=Ay (He P 10000 t (.pointer p) (.pointer q)) fun b=>K (.bool (!b)):=by
 show Bf (D7 P t (.pointer p) (.pointer q)=true) _=_
 rw[show(D7 P t (.pointer p) (.pointer q)=true)=True from eq_true rfl,Db]
theorem Nw(p q:Option Addr)(n m n' m':Nat):Cg P .eql t (.slice p n m) (.slice q n' m') K=Ay (He P 10000 t (.slice p n m) (.slice q n' m')) fun b=>K (.bool (b)):=by
 show Bf (D7 P t (.slice p n m) (.slice q n' m')=true) _=_
 rw[show(D7 P t (.slice p n m) (.slice q n' m')=true)=True from eq_true rfl,Db]
theorem N3(p q:Option Addr)(n m n' m':Nat):Cg P .neq t (.slice p n m) (.slice q n' m') K=Ay (He P 10000 t (.slice p n m) (.slice q n' m')) fun b=>K (.bool (!b)):=by
 show Bf (D7 P t (.slice p n m) (.slice q n' m')=true) _=_
 rw[show(D7 P t (.slice p n m) (.slice q n' m')=true)=True from eq_true rfl,Db]
theorem Sk(p q:Option Nat):Cg P .eql t (.map p) (.map q) K=Ay (He P 10000 t (.map p) (.map q)) fun b=>K (.bool (b)):=by
 show Bf (D7 P t (.map p) (.map q)=true) _=_
 rw[show(D7 P t (.map p) (.map q)=true)=True from eq_true rfl,Db]
theorem Qb(p q:Option Nat):Cg P .neq t (.map p) (.map q) K=Ay (He P 10000 t (.map p) (.map q)) fun b=>K (.bool (!b)):=by
 show Bf (D7 P t (.map p) (.map q)=true) _=_
 rw[show(D7 P t (.map p) (.map q)=true)=True from eq_true rfl,Db]
theorem RF(xs ys:Array Value):Cg P .eql t (.agg xs) (.agg ys) K=Bf (P.eqGuardType P.depth t=false) (Ay (He P 10000 t (.agg xs) (.agg ys)) fun b=>K (.bool (b))):=by
 show Bf (D7 P t (.agg xs) (.agg ys)=true) _=_
 rw[show(D7 P t (.agg xs) (.agg ys)=true)=(P.eqGuardType P.depth t=false) from by simp[D7]]
theorem TP(xs ys:Array Value):Cg P .neq t (.agg xs) (.agg ys) K=Bf (P.eqGuardType P.depth t=false) (Ay (He P 10000 t (.agg xs) (.agg ys)) fun b=>K (.bool (!b))):=by
 show Bf (D7 P t (.agg xs) (.agg ys)=true) _=_
 rw[show(D7 P t (.agg xs) (.agg ys)=true)=(P.eqGuardType P.depth t=false) from by simp[D7]]
end
section
variable (P:Program) (t:TypeId) (d:Nat) (a b:Int) (k:IntKind)
def Wg(P:Program)(d:Nat)(t:TypeId)(u:Option TypeDesc)(x y:Value):Option Bool:=
 match u,x,y with
  |some .bool,.bool a,.bool b=>some (a==b)
  |some (.int _),.int k a,.int k' b=>if k=k' then some (a==b)else none
  |some .string,.string a,.string b=>some (a.toList==b.toList)
  |some (.pointer _),.pointer none,.pointer b=>some b.isNone
  |some (.pointer _),.pointer (some _),.pointer none=>some false
  |some (.pointer te),.pointer (some a),.pointer (some b)=>if a=b∧(P.info? te).isSome=true then some true else none
  |some (.slice _),.slice none _ _,.slice b _ _=>some b.isNone
  |some (.slice _),.slice (some _) _ _,.slice none _ _=>some false
  |some (.map _ _),.map none,.map b=>some b.isNone
  |some (.map _ _),.map (some _),.map none=>some false
  |some (.struct fs),.agg xs,.agg ys=>eqT P d xs ys fs.toList (P.stoodInHeld t)
  |some (.array len te),.agg xs,.agg ys=>nT P (He P d) te len xs ys (P.info? te)
  |_,_,_=>none
where
 eqT (P:Program) (d:Nat) (xs ys:Array Value) (fs:List Field) (b:Bool):Option Bool:=if b then none else YB P (He P d) xs ys fs
theorem dp(x y:Value):He P (d+1) t x y=Wg P d t (P.underlying t) x y:=rfl
theorem Qy(x y:Bool):Wg P d t (some .bool) (.bool x) (.bool y)=some (x==y):=rfl
theorem Vj(k':IntKind):Wg P d t (some (.int k')) (.int k a) (.int k b)=some (a==b):=by simp[Wg]
theorem Uw(x y:ByteArray):Wg P d t (some .string) (.string x) (.string y)=some (x.toList==y.toList):=rfl
theorem S1(e:TypeId)(q:Option Addr):Wg P d t (some (.pointer e)) (.pointer none) (.pointer q)=some q.isNone:=rfl
theorem WS(e:TypeId)(q:Option Addr):Wg P d t (some (.pointer e)) (.pointer q) (.pointer none)=some q.isNone:=by cases q<;>rfl
theorem S4(e:TypeId)(q:Option Addr)(n m n' m':Nat):Wg P d t (some (.slice e)) (.slice none n m) (.slice q n' m')=some q.isNone:=rfl
theorem Vl(e:TypeId)(q:Option Addr)(n m n' m':Nat):Wg P d t (some (.slice e)) (.slice q n m) (.slice none n' m')=some q.isNone:=by cases q<;>rfl
theorem SD(e e':TypeId)(q:Option Nat):Wg P d t (some (.map e e')) (.map none) (.map q)=some q.isNone:=rfl
theorem U8(e e':TypeId)(q:Option Nat):Wg P d t (some (.map e e')) (.map q) (.map none)=some q.isNone:=by cases q<;>rfl
theorem Vb(fs:List Field)(xs ys:Array Value):Wg P d t (some (.struct fs.toArray)) (.agg xs) (.agg ys)=Wg.eqT P d xs ys fs (P.stoodInHeld t):=rfl
theorem On(fs:List Field)(xs ys:Array Value):Wg.eqT P d xs ys fs false=YB P (He P d) xs ys fs:=rfl
theorem Uy(eq:TypeId→Value→Value→Option Bool)(xs ys:Array Value):YB P eq xs ys []=some true:=rfl
theorem Rr(eq:TypeId→Value→Value→Option Bool)(xs ys:Array Value)(nm:String)(ft:TypeId)(off:Nat)(em:Bool)(tag pkg:String)(bo:Nat)(l:List Field):
  YB P eq xs ys (⟨nm,ft,off,em,tag,pkg,bo⟩::l)=if nm= "_" then YB P eq xs ys l else Hu (eX eq ft (FM P ft xs off) (FM P ft ys off)) (YB P eq xs ys l):=rfl
theorem Sg(eq:TypeId→Value→Value→Option Bool)(x y:Value):eX eq t (some x) (some y)=eq t x y:=rfl
theorem Ov(x y:Bool):Hu (some x) (some y)=some (x&&y):=rfl
def aB(s:Option (Bool×Nat))(cs:Array Value)(off:Nat):Option Value:=match s with
 |some (true,n)=>some (.agg (cs.extract off (off+n)))
 |some (false,_)=>cs[off]?
 |none=>none
theorem SA(cs:Array Value)(off:Nat):FM P t cs off=aB (Cw P t) cs off:=rfl
theorem PQ(cs:Array Value)(off n:Nat):aB (some (true,n)) cs off=some (.agg (cs.extract off (off+n))):=rfl
theorem Nb(cs:Array Value)(off n:Nat):aB (some (false,n)) cs off=cs[off]? :=rfl
theorem UN:oL .neg (.int k a)=some (.int k (k.wrap (0 - a))):=rfl
theorem Vr(x:Bool):oL .not (.bool x)=some (.bool (!x)):=rfl
def RY(P:Program)(s d:TypeId)(us ud:Option TypeDesc)(x:Value)(h:AY)(K:Value→AY→Prop):Prop:=
 match us,ud with
 |some _,some (.int k)=>match x with
  | .int _ n=>K (.int k (k.wrap n)) h
  |_=>False
 |some (.int _),some .string=>match x with
  | .int _ n=>K (.string (Utf8.encode n)) h
  |_=>False
 |some .string,some .string=>match x with
  | .string b=>K (.string b) h
  |_=>False
 |_,_=>DA P (convert s d x) h K
@[congr] theorem cnvS_congr {P:Program} {s d:TypeId} {us us' ud ud':Option TypeDesc} {x:Value} {h:AY} {K:Value→AY→Prop} (h1:us=us') (h2:ud=ud'):RY P s d us ud x h K=RY P s d us' ud' x h K:=by rw[h1,h2]
theorem VH(s dd:TypeId)(x:Value)(h:AY)(K:Value→AY→Prop):Qq P s dd x h K=RY P s dd (P.underlying s) (P.underlying dd) x h K:=rfl
theorem Hl(s dd:TypeId)(k':IntKind)(ds:TypeDesc)(h:AY)(K:Value→AY→Prop):RY P s dd (some ds) (some (.int k)) (.int k' a) h K=K (.int k (k.wrap a)) h:=by cases ds<;>rfl
theorem Gm(s dd:TypeId)(k':IntKind)(h:AY)(K:Value→AY→Prop):RY P s dd (some (.int k)) (some .string) (.int k' a) h K=K (.string (Utf8.encode a)) h:=rfl
theorem Jk(s dd:TypeId)(x:ByteArray)(h:AY)(K:Value→AY→Prop):RY P s dd (some .string) (some .string) (.string x) h K=K (.string x) h:=rfl
theorem Fx(s dd e:TypeId)(x:Value)(h:AY)(K:Value→AY→Prop):RY P s dd (some .string) (some (.slice e)) x h K=DA P (convert s dd x) h K:=rfl
theorem Ec(s dd e:TypeId)(x:Value)(h:AY)(K:Value→AY→Prop):RY P s dd (some (.slice e)) (some .string) x h K=DA P (convert s dd x) h K:=rfl
def XT(u:Option TypeDesc)(x:ByteArray)(K:Value→Prop):Prop:=Bf (u=some .string) (K (.int .i64 x.size))
@[congr] theorem lenS_congr {u u':Option TypeDesc} {x:ByteArray} {K:Value→Prop} (h1:u=u'):XT u x K=XT u' x K:=by rw[h1]
theorem WV(x:ByteArray)(h:AY)(K:Value→Prop):GM P t (.string x) h K=XT (P.underlying t) x K:=rfl
theorem JP(x:ByteArray)(K:Value→Prop):XT (some .string) x K=K (.int .i64 x.size):=by simp[XT,Bf]
theorem We(p:Option Addr)(n m:Nat)(h:AY)(K:Value→Prop):GM P t (.slice p n m) h K=Ay (O5 P t) fun _=>K (.int .i64 n):=rfl
def SG(u:Option TypeDesc)(o:Option Obj)(K:Value→Prop):Prop:=match u,o with|some (.map _ _),some (.map es _)=>K (.int .i64 es.size)|_,_=>False
@[congr] theorem lenM_congr {u u':Option TypeDesc} {o o':Option Obj} {K:Value→Prop} (h1:u=u') (h2:o=o'):SG u o K=SG u' o' K:=by rw[h1,h2]
theorem Pk(r:Nat)(h:AY)(K:Value→Prop):GM P t (.map (some r)) h K=SG (P.underlying t) h[r]? K:=rfl
theorem Hw(x y:TypeId)(es:Array MapEntry)(cl:Nat)(K:Value→Prop):SG (some (.map x y)) (some (.map es cl)) K=K (.int .i64 es.size):=rfl
def YN(u:Option TypeDesc)(x:ByteArray)(n:Int)(K:Value→Prop):Prop:=Bf (u=some .string∧0≤n) (Ay x.data[n.toNat]? fun b=>K (.int .u8 b.toNat))
@[congr] theorem idxS_congr {u u':Option TypeDesc} {x:ByteArray} {n:Int} {K:Value→Prop} (h1:u=u'):YN u x n K=YN u' x n K:=by rw[h1]
theorem UR(x:ByteArray)(K:Value→Prop):NH P t (.string x) (.int k a) K=YN (P.underlying t) x a K:=rfl
theorem JX(x:ByteArray)(K:Value→Prop):YN (some .string) x a K=Bf (0≤a) (Ay x.data[a.toNat]? fun b=>K (.int .u8 b.toNat)):=by simp[YN]
theorem Vk(p:Addr)(n m:Nat)(K:Value→Prop):NF P t (.slice (some p) n m) (.int k a) K=Ay (O5 P t) fun e=>Bf (0≤a∧a<n) (K (.pointer (some (p.add (a.toNat*e.2.1))))):=rfl
theorem KP(n:Nat):Cv none n=some (n:Int):=rfl
theorem Kn(n:Nat):Cv (some (.int k a)) n=some a:=rfl
def oo(u:Option TypeDesc)(x:ByteArray)(l r:Int)(K:Value→Prop):Prop:=Bf (u=some .string∧0≤l∧l≤r∧r≤x.size) (K (.string (x.extract l.toNat r.toNat)))
@[congr] theorem slS_congr {u u':Option TypeDesc} {x:ByteArray} {l r:Int} {K:Value→Prop} (h1:u=u'):oo u x l r K=oo u' x l r K:=by rw[h1]
theorem Ys(x:ByteArray)(lo hi:Option Value)(K:Value→Prop):bA P t (.string x) lo hi K=Ay (Cv lo 0) fun l=>Ay (Cv hi x.size) fun r=>oo (P.underlying t) x l r K:=rfl
theorem LA(x:ByteArray)(l r:Int)(K:Value→Prop):oo (some .string) x l r K=Bf (0≤l∧l≤r∧r≤x.size) (K (.string (x.extract l.toNat r.toNat))):=by simp[oo]
theorem Zl(p:Option Addr)(n m:Nat)(lo hi:Option Value)(K:Value→Prop):bA P t (.slice p n m) lo hi K=
  Ay (O5 P t) fun e=>Ay (Cv lo 0) fun l=>Ay (Cv hi n) fun r=>Bf (0≤l∧l≤r∧r≤m) (K (.slice (if m=l.toNat then p else p.map (·.add (l.toNat*e.2.1))) (r.toNat - l.toNat) (m - l.toNat))):=rfl
def rF(s:Option (Bool×Nat))(h:AY)(p:Addr):Option Value:=match s with
 |some (true,n)=>Gj (FR h p n)
 |some (false,_)=>G9 h p
 |none=>none
theorem Rg(h:AY)(p:Addr):JW P h t p=rF (Cw P t) h p:=rfl
theorem UD(h:AY)(p:Addr)(n:Nat):rF (some (true,n)) h p=Gj (FR h p n):=rfl
theorem UQ(h:AY)(p:Addr)(n:Nat):rF (some (false,n)) h p=G9 h p:=rfl
theorem ON(c:Array Value):Gj (some c)=some (.agg c):=rfl
def MN(o:Option Obj)(i:Nat):Option Value:=match o with|some (.cells c _ _)=>c[i]? |_=>none
theorem M5(h:AY)(g o:Nat):G9 h ⟨g,o,none⟩=MN h[g]? o:=rfl
theorem Kg(c:Array Value)(e:TypeId)(fr:Nat×Nat)(o:Nat):MN (some (.cells c e fr)) o=c[o]? :=rfl
def D0(b:Option Obj)(o n:Nat):Option (Array Value):=match b with|some (.cells c _ _)=>if o+n≤c.size then some (c.extract o (o+n))else none|_=>none
theorem HQ(h:AY)(g o n:Nat):FR h ⟨g,o,none⟩ n=D0 h[g]? o n:=by
 unfold FR D0;simp;rfl
theorem DX(c:Array Value)(e:TypeId)(fr:Nat×Nat)(o n:Nat):D0 (some (.cells c e fr)) o n=if o+n≤c.size then some (c.extract o (o+n))else none:=rfl
def pC(h:AY)(g:Nat)(b:Option Obj)(o:Nat)(vs:List Value):Option AY:=match b with
 |some (.cells c e fr)=>if o+vs.length≤c.size∧(fr.2≤o∨o+vs.length≤fr.1)∧Ds vs=true then some (h.setIfInBounds g (.cells (Cr c o vs) e fr))else none
 |_=>none
theorem HN(h:AY)(g o:Nat)(vs:List Value):Fq h ⟨g,o,none⟩ vs=pC h g h[g]? o vs:=by
 unfold Fq pC;simp;rfl
theorem OP(h:AY)(g:Nat)(c:Array Value)(e:TypeId)(o:Nat)(vs:List Value):pC h g (some (.cells c e (0,0))) o vs=
  if o+vs.length≤c.size∧Ds vs=true then some (h.setIfInBounds g (.cells (Cr c o vs) e))else none:=by simp[pC]
theorem ML(c:Array Value)(o:Nat):Cr c o []=c:=rfl
theorem Kh(c:Array Value)(o:Nat)(v:Value)(l:List Value):Cr c o (v::l)=Cr (c.setIfInBounds o v) (o+1) l:=rfl
theorem KM:Ds []=true:=rfl
theorem H9(v:Value)(l:List Value):Ds (v::l)=(v.oneCell'&&Ds l):=rfl
theorem Wk(vs:List (Nat×Value)):ah P t vs=ev P t (CY P t) (DD P t) vs:=rfl
theorem Oy(z:Value)(vs:List (Nat×Value)):ev P t true (some z) vs=Gj (Jy P t z.cells vs):=rfl
def mr(P:Program)(t:TypeId)(c:Array Value)(v:Value)(l:List (Nat×Value))(f:Option (Nat×Bool×Nat)):Option (Array Value):=match f with
 |some (off,_,n)=>if v.cells.size=n∧off+n≤c.size then Jy P t (Cr c off v.cells.toList) l else none
 |none=>none
theorem QJ(c:Array Value):Jy P t c []=some c:=rfl
theorem Nk(c:Array Value)(i:Nat)(v:Value)(l:List (Nat×Value)):Jy P t c ((i,v)::l)=mr P t c v l (Cd P t i):=by
 unfold Jy mr;rfl
theorem NU(c:Array Value)(v:Value)(l:List (Nat×Value))(off n:Nat)(g:Bool):mr P t c v l (some (off,g,n))=if v.cells.size=n∧off+n≤c.size then Jy P t (Cr c off v.cells.toList) l else none:=rfl
def ml(x:Value)(f:Option (Nat×Bool×Nat)):Option Value:=match x,f with
 | .agg cs,some (off,true,n)=>some (.agg (cs.extract off (off+n)))
 | .agg cs,some (off,false,_)=>cs[off]?
 |_,_=>none
theorem U2(x:Value)(i:Nat):cK P t i x=ml x (Cd P t i):=rfl
theorem SE(c:Array Value)(off n:Nat):ml (.agg c) (some (off,true,n))=some (.agg (c.extract off (off+n))):=rfl
theorem SL(c:Array Value)(off n:Nat):ml (.agg c) (some (off,false,n))=c[off]? :=rfl
theorem Rs(x:Bool):(Value.bool x).oneCell'=true:=rfl
theorem UO(k:IntKind)(n:Int):(Value.int k n).oneCell'=true:=rfl
theorem Mv(s:ByteArray):(Value.string s).oneCell'=true:=rfl
theorem Ke(p:Option Addr):(Value.pointer p).oneCell'=true:=rfl
theorem PR(p:Option Addr)(n m:Nat):(Value.slice p n m).oneCell'=true:=rfl
theorem WN(p:Option Nat):(Value.map p).oneCell'=true:=rfl
theorem RZ(f:Fn)(x y:Array Value):(Value.func f x y).oneCell'=true:=rfl
theorem N9(c:Array Value):(Value.agg c).cells=c:=rfl
theorem OT(k:IntKind)(n:Int):(Value.int k n).cells= #[.int k n]:=rfl
theorem L5(x:Bool):(Value.bool x).cells= #[.bool x]:=rfl
theorem H5(s:ByteArray):(Value.string s).cells= #[.string s]:=rfl
theorem HB(p:Option Addr):(Value.pointer p).cells= #[.pointer p]:=rfl
theorem Kk(p:Option Addr)(n m:Nat):(Value.slice p n m).cells= #[.slice p n m]:=rfl
theorem Ns(p:Option Nat):(Value.map p).cells= #[.map p]:=rfl
theorem MA(f:Fn)(x y:Array Value):(Value.func f x y).cells= #[.func f x y]:=rfl
end
theorem Uq(b:Bool)(A B:Prop):Jx b A B=if b=true then A else B:=by cases b<;>simp[Jx]
theorem NY[dd:DefD](c:Cx)(k:List It)(ρ:Ba)(h:AY):fP c (some k) ρ h=C8 c k ρ h:=rfl
@[congr] theorem denX_congr [dd:DefD] {c:Cx} {k k':Option (List It)} {ρ:Ba} {h:AY} (e:k=k'):fP c k ρ h=fP c k' ρ h:=by rw[e]
theorem NN(id:Nat)(k:List It):Cu id (.blk id::k)=some k:=by simp[Cu]
theorem Mw(id i:Nat)(k:List It)(hne: ¬i=id):Cu id (.blk i::k)=Cu id k:=by simp[Cu,hne]
theorem MS(id:Nat)(x:Code)(k:List It):Cu id (.code x::k)=Cu id k:=rfl
theorem QR(id:Nat)(x:Code)(k:List It):Cu id (.lp x::k)=Cu id k:=rfl
theorem R4(id:Nat)(x:Code)(k:List It):Cu id (.sc x::k)=Cu id k:=rfl
section
variable (P:Program) (n:Nat) (all:List Oper) (m:Nat) (ρ:Ba) (h:AY) (K:Ba→AY→Prop) (X:List PanicEntry→AY→Prop)
variable (dst:Option Nat) (ty:TypeId) (pos:String) (aft:Array Edge) (gd:Option (Nat×Bool)) (rest:List Oper)
def SK(cur:Option (Nat×Bool))(j:Nat)(want:Bool)(g after:List Oper)(s:Nat)(b:Bool)(pure:Bool):Prop:=
 match pure,after with
 |true,p::after'=>match Cs want s p.op with
  |some y=>B7 P n all m (some (j,want)) g ρ h (fun ρ' h'=>Ay (BE ρ' y) fun c=>C9 n p.dst want b c (DR g ρ) fun ρ''=>B7 P n all m cur after' ρ'' h' K X) X
  |none=>False
 |_,after=>Jx (b==want) (B7 P n all m (some (j,want)) g ((s,some (.bool want))::ρ) h (fun ρ' h'=>B7 P n all m cur after ρ' h' K X) X) (B7 P n all m cur after (DR g ((s,some (.bool (!want)))::ρ)) h K X)
@[congr] theorem grpP_congr {P:Program} {n:Nat} {all:List Oper} {m:Nat} {ρ:Ba} {h:AY} {K:Ba→AY→Prop} {X:List PanicEntry→AY→Prop} {cur:Option (Nat×Bool)} {j:Nat} {want:Bool} {g g' after after':List Oper} {s:Nat} {b pu pu':Bool} (h1:g=g') (h2:after=after') (h3:pu=pu'):
  SK P n all m ρ h K X cur j want g after s b pu=SK P n all m ρ h K X cur j want g' after' s b pu':=by rw[h1,h2,h3]
theorem VZ(cur:Option (Nat×Bool))(j:Nat)(want:Bool)(g after:List Oper)(s:Nat)(b:Bool):mV P n all m ρ h K X cur j want g after s b=Bf (Cn all s j want [] g=true) (SK P n all m ρ h K X cur j want g after s b (EC g)):=rfl
theorem Vz(cur:Option (Nat×Bool))(j:Nat)(want:Bool)(g after:List Oper)(s:Nat)(b:Bool):SK P n all m ρ h K X cur j want g after s b false=
  Jx (b==want) (B7 P n all m (some (j,want)) g ((s,some (.bool want))::ρ) h (fun ρ' h'=>B7 P n all m cur after ρ' h' K X) X) (B7 P n all m cur after (DR g ((s,some (.bool (!want)))::ρ)) h K X):=rfl
theorem VU(cur:Option (Nat×Bool))(j:Nat)(g after:List Oper)(s:Nat)(b:Bool)(y:Operand):SK P n all m ρ h K X cur j false g (⟨dst,.pick (.tmp s) (.const (.bool true)) y,ty,pos,aft,gd⟩::after) s b true=
  B7 P n all m (some (j,false)) g ρ h (fun ρ' h'=>Ay (BE ρ' y) fun c=>C9 n dst false b c (DR g ρ) fun ρ''=>B7 P n all m cur after ρ'' h' K X) X:=by simp[SK,Cs]
theorem R1(cur:Option (Nat×Bool))(j:Nat)(g after:List Oper)(s:Nat)(b:Bool)(y:Operand):SK P n all m ρ h K X cur j true g (⟨dst,.pick (.tmp s) y (.const (.bool false)),ty,pos,aft,gd⟩::after) s b true=
  B7 P n all m (some (j,true)) g ρ h (fun ρ' h'=>Ay (BE ρ' y) fun c=>C9 n dst true b c (DR g ρ) fun ρ''=>B7 P n all m cur after ρ'' h' K X) X:=by simp[SK,Cs]
end
theorem O7(a b:Nat)(l:List Nat):(a∈b::l)=(a=b∨a∈l):=by simp
theorem Rl(a:Nat):(a∈([]:List Nat))=False:=by simp
theorem Od(all:List Oper)(s j:Nat)(want:Bool)(sk:List Nat):Cn all s j want sk []=true:=by simp[Cn]
theorem M3(all:List Oper)(s j:Nat)(want:Bool)(sk:List Nat)(d j':Nat)(w':Bool)(op:Op)(ty:TypeId)(pos:String)(aft:Array Edge)(l:List Oper):Cn all s j want sk (⟨some d,op,ty,pos,aft,some (j',w')⟩::l)=
  if d=s then false else if j'=j∧w'=want then Cn all s j want (d::sk) l else nM all s j want sk d l (Cj all j'):=by
 simp only[Cn,nM];cases Cj all j'<;>rfl
theorem Nm(all:List Oper)(s j:Nat)(want:Bool)(sk:List Nat)(d s':Nat)(l:List Oper):nM all s j want sk d l (some s')=if s'∈sk then Cn all s j want (d::sk) l else false:=rfl
theorem V2(ρ:Ba):DR [] ρ=ρ:=rfl
theorem So(d:Nat)(op:Op)(ty:TypeId)(pos:String)(aft:Array Edge)(gd:Option (Nat×Bool))(l:List Oper)(ρ:Ba):DR (⟨some d,op,ty,pos,aft,gd⟩::l) ρ=DR l ((d,none)::ρ):=rfl
theorem Oc(x:Operand):Ch (.move x)=true:=rfl
theorem Oh(x a b:Operand):Ch (.pick x a b)=true:=rfl
theorem JR(x:Operand)(i:Nat):Ch (.extract x i)=true:=rfl
theorem OE(op:UnOp)(t:TypeId)(x:Operand):Ch (.unOp op t x)=true:=rfl
theorem Rn(xs:Array Operand)(ts:Array TypeId):Ch (.call ⟨.builtin .len,xs,ts⟩)=true:=rfl
def E6(op:BinOp):Bool:=match op with| .quo| .rem| .shl| .shr=>false|_=>true
theorem MP(op:BinOp)(t:TypeId)(x y:Operand)(t':TypeId):Ch (.binOp op t x y t')=E6 op:=rfl
theorem PF:E6 .eql=true:=rfl
theorem NZ:E6 .neq=true:=rfl
theorem Pc:E6 .lss=true:=rfl
theorem N8:E6 .leq=true:=rfl
theorem Nr:E6 .gtr=true:=rfl
theorem OJ:E6 .geq=true:=rfl
theorem NW:E6 .add=true:=rfl
theorem N2:E6 .sub=true:=rfl
theorem Of:E6 .mul=true:=rfl
theorem O2:E6 .and=true:=rfl
theorem Qk:E6 .or=true:=rfl
theorem Pg:E6 .quo=false:=rfl
theorem N0:E6 .rem=false:=rfl
theorem Nt(t:TypeId)(x:Operand):Ch (.load t x)=false:=rfl
theorem L8(t:TypeId)(x y:Operand):Ch (.index t x y)=false:=rfl
theorem Gd(t:TypeId)(x y:Operand):Ch (.indexAddr t x y)=false:=rfl
theorem Gb(t:TypeId)(x:Operand)(i:Nat):Ch (.fieldAddr t x i)=false:=rfl
theorem L4(t:TypeId)(x:Operand)(i:Nat):Ch (.field t x i)=false:=rfl
theorem G6(x:Operand):Ch (.nilCheck x)=false:=rfl
theorem NO(f:Operand)(xs:Array Operand)(ts:Array TypeId):Ch (.call ⟨.value f,xs,ts⟩)=false:=rfl
theorem Mt(t:TypeId)(x:Operand)(a b c:Option Operand):Ch (.slice t x a b c)=false:=rfl
theorem JQ(t t':TypeId)(x:Operand):Ch (.convert t t' x)=false:=rfl
theorem Ki(t:TypeId)(x y:Operand)(ok:Bool):Ch (.lookup t x y ok)=false:=rfl
theorem Mi(t:TypeId)(ps:Array (Nat×Operand)):Ch (.build t ps)=false:=rfl
theorem MR(t:TypeId):Ch (.alloc t)=false:=rfl
theorem TN(t:TypeId)(x:Operand):Ch (.box t x)=false:=rfl
theorem KQ(x:Operand):Ch (.assign x)=false:=rfl
theorem Cl:type_of% (An @Zl (An @LA (An @Ys (An @Vk (An @JX (An @UR (An @Hw (An @Pk (An @We (An @JP (An @WV (An @Ec (An @Fx (An @Jk (An @Gm (An @Hl (An @VH (An @Vc (An @Vi (An @cF (An @bS (An @TK (An @Pf (An @W9 (An @Vn (An @QU (An @Oz (An @Pd (An @QQ (An @MF (An @Ku (An @SF (An @NY (An @L9 (An @Jd (An @O9 (An @KN (An @Hb (An @Na (An @Og (An @OR (An @QH (An @Rj (An @Mg (An @MG (An @U9 (An @Qj (An @Ml (An @TQ (An @Si (An @VZ (An @Ud (An @PG (An @Wn (An @Sb (An @YT (An @Qi (An @HJ (An @Wu (An @RP (An @KY (An @RK (An @UH (An @Lm (An @Fh (An @Ko (An @Ly (An @JJ (An @Sr (An @JY (An @SM (An @Hz (An @Q0 (An @OY (An @Hp (An @NV (An @Q3 (An @WW (An @HG (An @Lr (An @ZC (An @OA (An @Yf (An @WC (An @OV (An @XL (An @Sa (An @XR (An @Vh (An @WH (An @UL (An @W2 (An @UT (An @XB (An @Ur (An @VK (An @VP (An @UX (An @Uz (An @dt (An @Wm (An @WZ (An @SX (An @Q2 (An @Ru (An @RR (An @Sp (An @Rf (An @TR (An @Q1 (An @TG (An @Qd (An @SR (An @Nw (An @N3 (An @Sk (An @Qb (An @RF @TP)))))))))))))))))))))))))))))))))))))))))))))))))))))))))))))))))))))))))))))))))))))))))))))))))))))))))))))))))))))):=⟨@Zl,@LA,@Ys,@Vk,@JX,@UR,@Hw,@Pk,@We,@JP,@WV,@Ec,@Fx,@Jk,@Gm,@Hl,@VH,@Vc,@Vi,@cF,@bS,@TK,@Pf,@W9,@Vn,@QU,@Oz,@Pd,@QQ,@MF,@Ku,@SF,@NY,@L9,@Jd,@O9,@KN,@Hb,@Na,@Og,@OR,@QH,@Rj,@Mg,@MG,@U9,@Qj,@Ml,@TQ,@Si,@VZ,@Ud,@PG,@Wn,@Sb,@YT,@Qi,@HJ,@Wu,@RP,@KY,@RK,@UH,@Lm,@Fh,@Ko,@Ly,@JJ,@Sr,@JY,@SM,@Hz,@Q0,@OY,@Hp,@NV,@Q3,@WW,@HG,@Lr,@ZC,@OA,@Yf,@WC,@OV,@XL,@Sa,@XR,@Vh,@WH,@UL,@W2,@UT,@XB,@Ur,@VK,@VP,@UX,@Uz,@dt,@Wm,@WZ,@SX,@Q2,@Ru,@RR,@Sp,@Rf,@TR,@Q1,@TG,@Qd,@SR,@Nw,@N3,@Sk,@Qb,@RF,@TP⟩
theorem TV(ρ:Ba)(K:Ba→Prop):Dk ρ K=K ρ:=rfl
theorem rP:type_of% (An @Uq (An @TV (An @LA (An @JX (An @Hw (An @JP (An @Ec (An @Fx (An @Jk (An @Gm (An @Hl (An @RZ (An @WN (An @PR (An @Ke (An @Mv (An @UO (An @Rs (An @SL (An @SE (An @U2 (An @NU (An @Nk (An @Oy (An @Wk (An @OP (An @HN (An @DX (An @HQ (An @Kg (An @M5 (An @UQ (An @UD (An @Rg (An @Nb (An @PQ (An @SA (An @Ov (An @Sg (An @Rr (An @Uy (An @On (An @Vb (An @U8 (An @SD (An @Vl (An @S4 (An @WS (An @S1 (An @Uw (An @Vj (An @Qy (An @dp (An @Sd (An @Db (An @La (An @J6 (An @Pb (An @LV (An @O3 (An @L1 (An @Kp (An @Kc (An @NX (An @MH (An @Oc (An @Oh (An @JR (An @MP (An @OE (An @Rn (An @Nt (An @L8 (An @Gd (An @Gb (An @L4 (An @G6 (An @NO (An @Mt (An @JQ (An @Ki (An @Mi (An @MR (An @TN (An @KQ (An @PF (An @NZ (An @Pc (An @N8 (An @Nr (An @OJ (An @NW (An @N2 (An @Of (An @Pg (An @N0 (An @O2 (An @Qk (An @Wj (An @Ab (An @PV (An @Mo (An @Md (An @L6 (An @Uu (An @Nx (An @Mp (An @RC (An @WU (An @Rp (An @Mc (An @XG (An @R9 (An @L0 (An @NS (An @OL (An @Qa (An @Ol (An @S2 (An @Ob (An @Mx (An @R3 (An @Uv (An @W0 (An @Nn (An @Qz (An @Kj (An @Fa (An @UN (An @Vr (An @KP (An @Kn (An @ON (An @ML (An @Kh (An @KM (An @H9 (An @QJ (An @N9 (An @OT (An @L5 (An @H5 (An @HB (An @Kk (An @Ns (An @MA (An @MJ (An @Km (An @NN (An @Mw (An @MS (An @QR (An @R4 (An @Vz (An @Od (An @M3 (An @Nm (An @V2 (An @So (An @O7 (An @Rl (An @VU @R1)))))))))))))))))))))))))))))))))))))))))))))))))))))))))))))))))))))))))))))))))))))))))))))))))))))))))))))))))))))))))))))))))))))))))))))))))))))))))))))))))):=⟨@Uq,@TV,@LA,@JX,@Hw,@JP,@Ec,@Fx,@Jk,@Gm,@Hl,@RZ,@WN,@PR,@Ke,@Mv,@UO,@Rs,@SL,@SE,@U2,@NU,@Nk,@Oy,@Wk,@OP,@HN,@DX,@HQ,@Kg,@M5,@UQ,@UD,@Rg,@Nb,@PQ,@SA,@Ov,@Sg,@Rr,@Uy,@On,@Vb,@U8,@SD,@Vl,@S4,@WS,@S1,@Uw,@Vj,@Qy,@dp,@Sd,@Db,@La,@J6,@Pb,@LV,@O3,@L1,@Kp,@Kc,@NX,@MH,@Oc,@Oh,@JR,@MP,@OE,@Rn,@Nt,@L8,@Gd,@Gb,@L4,@G6,@NO,@Mt,@JQ,@Ki,@Mi,@MR,@TN,@KQ,@PF,@NZ,@Pc,@N8,@Nr,@OJ,@NW,@N2,@Of,@Pg,@N0,@O2,@Qk,@Wj,@Ab,@PV,@Mo,@Md,@L6,@Uu,@Nx,@Mp,@RC,@WU,@Rp,@Mc,@XG,@R9,@L0,@NS,@OL,@Qa,@Ol,@S2,@Ob,@Mx,@R3,@Uv,@W0,@Nn,@Qz,@Kj,@Fa,@UN,@Vr,@KP,@Kn,@ON,@ML,@Kh,@KM,@H9,@QJ,@N9,@OT,@L5,@H5,@HB,@Kk,@Ns,@MA,@MJ,@Km,@NN,@Mw,@MS,@QR,@R4,@Vz,@Od,@M3,@Nm,@V2,@So,@O7,@Rl,@VU,@R1⟩
end Go.Vm
