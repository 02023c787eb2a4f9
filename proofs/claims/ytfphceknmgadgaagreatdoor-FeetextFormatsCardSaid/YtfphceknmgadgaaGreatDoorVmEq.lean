/-
The evaluator's equations, for simp.
Conditions: none. Generic: it speaks of no program.
-/
import Derived.Test.YtfphceknmgadgaaGreatDoorVmRun
set_option linter.unusedSimpArgs false
set_option linter.unusedVariables false
namespace Go.Vm
def grpS(all:List Oper)(s j:Nat)(want:Bool)(sk:List Nat)(d:Nat)(l:List Oper)(o:Option Nat):Bool:=match o with|some s'=>if s'∈sk then C7 all s j want (d::sk) l else false|none=>false
section
variable (c:Cx) (k:List It) (ρ:Bc) (h:AX)
theorem Xc[dd:DefD]:Dc c [] ρ h=XP c ρ h:=by rw[Dc]
theorem aP[dd:DefD](id:Nat):Dc c (.blk id::k) ρ h=Dc c k ρ h:=by rw[Dc]
theorem eF[dd:DefD](b:Code):Dc c (.sc b::k) ρ h=Dc c k ρ h:=by rw[Dc]
theorem dG[dd:DefD](b:Code):Dc c (.lp b::k) ρ h=EW (canon c.live ρ) fun ρ=> @Bx dd c b k ρ h ():=by rw[Dc];rfl
theorem Vq[dd:DefD]:Dc c (.code .skip::k) ρ h=Dc c k ρ h:=by rw[Dc]
theorem RW[dd:DefD](l:Nat):Dc c (.code (.label l)::k) ρ h=Dc c k ρ h:=by rw[Dc]
theorem aS[dd:DefD]:Dc c (.code .ret::k) ρ h=XP c ρ h:=by rw[Dc]
theorem Zt[dd:DefD](x y:Code):Dc c (.code (.seq x y)::k) ρ h=Dc c (.code x:: .code y::k) ρ h:=by rw[Dc]
theorem Tr[dd:DefD](x:Operand)(t e:Code):Dc c (.code (.cond x t e)::k) ρ h=A9 (BM ρ x) fun v=>Sx v (Dc c (.code t::k) ρ h) (Dc c (.code e::k) ρ h):=by rw[Dc]
theorem RV[dd:DefD](id:Nat)(b:Code):Dc c (.code (.block id b)::k) ρ h=Dc c (.code b:: .blk id::k) ρ h:=by rw[Dc]
theorem Pl[dd:DefD](b:Code):Dc c (.code (.scope b)::k) ρ h=Dc c (.code b:: .sc b::k) ρ h:=by rw[Dc]
theorem V6[dd:DefD](b:Code):Dc c (.code (.loop b)::k) ρ h=EW (canon c.live ρ) fun ρ=> @Bx dd c b k ρ h ():=by rw[Dc];rfl
theorem NQ[dd:DefD](id:Nat)(ops:List Oper):Dc c (.code (.region id ops.toArray false)::k) ρ h=
  EW (canon c.live ρ) fun ρ=>CM c.P c.n ops 400 none ops ρ h (fun ρ' h'=>Dc c k ρ' h') fun ch h'=>c.R (.panicked ch) h':=by rw[Dc];rfl
theorem Mc[dd:DefD](id:Nat)(ops:Array Oper):Dc c (.code (.region id ops true)::k) ρ h=EW (canon c.live ρ) fun ρ=> @Hy dd c (.code (.region id ops true)::k) ρ h ():=by rw[Dc];rfl
theorem Us[dd:DefD](id:Nat):Dc c (.code (.exit id)::k) ρ h=mY c (DG id k) ρ h:=by
 rw[Dc];cases DG id k<;>rfl
end
section
variable (P:Program) (n:Nat) (all:List Oper) (m:Nat) (ρ:Bc) (h:AX) (K:Bc→AX→Prop) (X:List PanicEntry→AX→Prop)
variable (dst:Option Nat) (ty:TypeId) (pos:String) (aft:Array Edge) (gd:Option (Nat×Bool)) (rest:List Oper)
theorem Ot(cur:Option (Nat×Bool)):CM P n all (m+1) cur [] ρ h K X=K ρ h:=rfl
theorem LV(op:Op):CM P n all (m+1) none (⟨dst,op,ty,pos,aft,none⟩::rest) ρ h K X=
  Bb P n ⟨dst,op,ty,pos,aft,none⟩ ρ h (fun ρ' h'=>CM P n all m none rest ρ' h' K X) X:=by simp[CM]
theorem Pn(op:Op)(g:Nat×Bool):CM P n all (m+1) (some g) (⟨dst,op,ty,pos,aft,some g⟩::rest) ρ h K X=
  Bb P n ⟨dst,op,ty,pos,aft,some g⟩ ρ h (fun ρ' h'=>CM P n all m (some g) rest ρ' h' K X) X:=by simp[CM]
def vF(cur:Option (Nat×Bool))(j:Nat)(want:Bool)(g after:List Oper)(s:Nat)(b:Bool):Prop:=
 Br (C7 all s j want [] g=true) (match FF g,after with
 |true,p::after'=>match DD want s p.op with
  |some y=>CM P n all m (some (j,want)) g ρ h (fun ρ' h'=>A9 (BM ρ' y) fun c=>Dg n p.dst want b c (D5 g ρ) fun ρ''=>CM P n all m cur after' ρ'' h' K X) X
  |none=>False
 |_,after=>Lo (b==want) (CM P n all m (some (j,want)) g ((s,some (.bool want))::ρ) h (fun ρ' h'=>CM P n all m cur after ρ' h' K X) X) (CM P n all m cur after (D5 g ((s,some (.bool (!want)))::ρ)) h K X))
def grpV(cur:Option (Nat×Bool))(j:Nat)(want:Bool)(g after:List Oper)(s:Nat)(v:Value):Prop:=
 match v with| .bool b=>vF P n all m ρ h K X cur j want g after s b|_=>False
theorem QN(cur:Option (Nat×Bool))(j:Nat)(want:Bool)(g after:List Oper)(s:Nat)(b:Bool):
  grpV P n all m ρ h K X cur j want g after s (.bool b)=vF P n all m ρ h K X cur j want g after s b:=rfl
theorem KA(op:Op)(cur:Option (Nat×Bool))(j:Nat)(want:Bool)(hne: ¬some (j,want)=cur):CM P n all (m+1) cur (⟨dst,op,ty,pos,aft,some (j,want)⟩::rest) ρ h K X=
  A9 (C2 all j) fun s=>A9 (get ρ s) fun v=>grpV P n all m ρ h K X cur j want
   (⟨dst,op,ty,pos,aft,some (j,want)⟩::Bv cur rest) (Cb cur rest) s v:=by
 have h1:Bv cur (⟨dst,op,ty,pos,aft,some (j,want)⟩::rest)=⟨dst,op,ty,pos,aft,some (j,want)⟩::Bv cur rest:=by simp[Bv,hne]
 have h2:Cb cur (⟨dst,op,ty,pos,aft,some (j,want)⟩::rest)=Cb cur rest:=by simp[Cb,hne]
 rw[CM,if_neg hne,h1,h2]
 congr 1
theorem Lx(op:Op)(j:Nat)(want:Bool):CM P n all (m+1) none (⟨dst,op,ty,pos,aft,some (j,want)⟩::rest) ρ h K X=
  A9 (C2 all j) fun s=>A9 (get ρ s) fun v=>grpV P n all m ρ h K X none j want
   (⟨dst,op,ty,pos,aft,some (j,want)⟩::Bv none rest) (Cb none rest) s v:=KA P n all m ρ h K X dst ty pos aft rest op none j want (by simp)
theorem QO(cur:Option (Nat×Bool)):Bv cur []=[]:=rfl
theorem Nl(cur:Option (Nat×Bool))(op:Op):Bv cur (⟨dst,op,ty,pos,aft,gd⟩::rest)=if gd=cur then []else⟨dst,op,ty,pos,aft,gd⟩::Bv cur rest:=rfl
theorem Pz(cur:Option (Nat×Bool)):Cb cur []=[]:=rfl
theorem PA(cur:Option (Nat×Bool))(op:Op):Cb cur (⟨dst,op,ty,pos,aft,gd⟩::rest)=if gd=cur then⟨dst,op,ty,pos,aft,gd⟩::rest else Cb cur rest:=rfl
theorem MP(op:Op):C2 (⟨dst,op,ty,pos,aft,gd⟩::rest) 0=dst:=rfl
theorem MX(o:Oper)(j:Nat):C2 (o::rest) (j+1)=C2 rest j:=rfl
theorem Qn:FF []=true:=rfl
theorem OR(op:Op):FF (⟨dst,op,ty,pos,aft,gd⟩::rest)=(Cw op&&FF rest):=rfl
theorem bH(x:Operand):Bb P n ⟨dst,.move x,ty,pos,aft,gd⟩ ρ h K X=A9 (BM ρ x) fun v=>BL n dst v ρ fun ρ'=>K ρ' h:=rfl
theorem Qo(x:Operand):Bb P n ⟨dst,.assign x,ty,pos,aft,gd⟩ ρ h K X=A9 (BM ρ x) fun v=>BL n dst v ρ fun ρ'=>K ρ' h:=rfl
theorem au(x a b:Operand):Bb P n ⟨dst,.pick x a b,ty,pos,aft,gd⟩ ρ h K X=A9 (BM ρ x) fun v=>Sx v (A9 (BM ρ a) fun u=>BL n dst u ρ fun ρ'=>K ρ' h) (A9 (BM ρ b) fun u=>BL n dst u ρ fun ρ'=>K ρ' h):=rfl
theorem TJ(e:TypeId):Bb P n ⟨dst,.alloc e,ty,pos,aft,gd⟩ ρ h K X=A9 (DU P e) fun z=>BL n dst (.pointer (some ⟨h.size,0,none⟩)) ρ fun ρ'=>K ρ' (h.push (.cells z.cells e)):=rfl
theorem g9(e:TypeId)(x:Operand):Bb P n ⟨dst,.box e x,ty,pos,aft,gd⟩ ρ h K X=A9 (BM ρ x) fun v=>BL n dst (.pointer (some ⟨h.size,0,none⟩)) ρ fun ρ'=>K ρ' (h.push (.cells v.cells e)):=rfl
theorem VO(t:TypeId)(ps:List (Nat×Operand)):Bb P n ⟨dst,.build t ps.toArray,ty,pos,aft,gd⟩ ρ h K X=A9 (Ae ρ ps) fun vs=>A9 (iJ P t vs) fun v=>BL n dst v ρ fun ρ'=>K ρ' h:=rfl
theorem Jo(t:TypeId)(l:Nat)(ps:List (Nat×Operand)):Bb P n ⟨dst,.buildSlice t l ps.toArray,ty,pos,aft,gd⟩ ρ h K X=A9 (Ae ρ ps) fun vs=>A9 (C4 P t l vs) fun r=>BL n dst (.slice (some ⟨h.size,0,none⟩) l l) ρ fun ρ'=>K ρ' (h.push (.cells r.2 r.1)):=rfl
theorem Zo(t:TypeId)(x:Operand):Bb P n ⟨dst,.load t x,ty,pos,aft,gd⟩ ρ h K X=A9 (BM ρ x) fun p=>A9 (D7 p) fun a=>A9 (K7 P h t a) fun v=>BL n dst v ρ fun ρ'=>K ρ' h:=rfl
theorem TZ(t:TypeId)(x y:Operand):Bb P n ⟨dst,.store t x y,ty,pos,aft,gd⟩ ρ h K X=A9 (BM ρ x) fun p=>A9 (D7 p) fun a=>A9 (BM ρ y) fun v=>A9 (DP P t) fun s=>Br (v.cells.size=s.2) (A9 (HG h a v.cells.toList) fun h'=>BL n dst undef ρ fun ρ'=>K ρ' h'):=rfl
theorem MD(x:Operand):Bb P n ⟨dst,.nilCheck x,ty,pos,aft,gd⟩ ρ h K X=A9 (BM ρ x) fun p=>A9 (D7 p) fun _=>BL n dst p ρ fun ρ'=>K ρ' h:=rfl
theorem T9(op:BinOp)(t:TypeId)(x y:Operand)(t':TypeId):Bb P n ⟨dst,.binOp op t x y t',ty,pos,aft,gd⟩ ρ h K X=A9 (BM ρ x) fun a=>A9 (BM ρ y) fun b=>Cv P op t a b fun v=>BL n dst v ρ fun ρ'=>K ρ' h:=rfl
theorem Z0(op:UnOp)(t:TypeId)(x:Operand):Bb P n ⟨dst,.unOp op t x,ty,pos,aft,gd⟩ ρ h K X=A9 (BM ρ x) fun v=>A9 (unV op v) fun u=>BL n dst u ρ fun ρ'=>K ρ' h:=rfl
theorem Nz(s d:TypeId)(x:Operand):Bb P n ⟨dst,.convert s d x,ty,pos,aft,gd⟩ ρ h K X=A9 (BM ρ x) fun v=>U2 P s d v h fun u h'=>BL n dst u ρ fun ρ'=>K ρ' h':=rfl
theorem G6(t:TypeId)(x:Operand):Bb P n ⟨dst,.makeInterface t x,ty,pos,aft,gd⟩ ρ h K X=A9 (BM ρ x) fun v=>Br (P.concrete t=true) (BL n dst (.iface t v) ρ fun ρ'=>K ρ' h):=rfl
theorem MQ(fn:Fn)(fs cs:List Operand):Bb P n ⟨dst,.makeFunc fn fs.toArray cs.toArray,ty,pos,aft,gd⟩ ρ h K X=A9 (G8 ρ fs) fun us=>A9 (G8 ρ cs) fun vs=>BL n dst (.func fn us.toArray vs.toArray) ρ fun ρ'=>K ρ' h:=rfl
theorem Oy(t:TypeId):Bb P n ⟨dst,.makeMap t none,ty,pos,aft,gd⟩ ρ h K X=BL n dst (.map (some h.size)) ρ fun ρ'=>K ρ' (h.push (.map #[] 0)):=rfl
theorem Kh(t:TypeId)(l c:Operand):Bb P n ⟨dst,.makeSlice t l c,ty,pos,aft,gd⟩ ρ h K X=A9 (BM ρ l) fun lv=>A9 (BM ρ c) fun cv=>Db P (Instr.makeSlice t lv cv) h fun v h'=>BL n dst v ρ fun ρ'=>K ρ' h':=rfl
theorem Ue(t:TypeId)(x:Operand)(lo hi:Option Operand):Bb P n ⟨dst,.slice t x lo hi none,ty,pos,aft,gd⟩ ρ h K X=A9 (BM ρ x) fun v=>A9 (Fj ρ lo) fun l=>A9 (Fj ρ hi) fun r=>ll P t v l r fun u=>BL n dst u ρ fun ρ'=>K ρ' h:=rfl
theorem LX(t:TypeId)(x:Operand)(i:Nat):Bb P n ⟨dst,.fieldAddr t x i,ty,pos,aft,gd⟩ ρ h K X=A9 (BM ρ x) fun p=>A9 (D7 p) fun a=>A9 (Cr P t i) fun f=>Br (f.2.2≠0) (BL n dst (.pointer (some (a.add f.1))) ρ fun ρ'=>K ρ' h):=rfl
theorem T6(t:TypeId)(x:Operand)(i:Nat):Bb P n ⟨dst,.field t x i,ty,pos,aft,gd⟩ ρ h K X=A9 (BM ρ x) fun v=>A9 (gO P t i v) fun u=>BL n dst u ρ fun ρ'=>K ρ' h:=rfl
theorem LQ(t:TypeId)(x i:Operand):Bb P n ⟨dst,.indexAddr t x i,ty,pos,aft,gd⟩ ρ h K X=A9 (BM ρ x) fun v=>A9 (BM ρ i) fun j=>PQ P t v j fun u=>BL n dst u ρ fun ρ'=>K ρ' h:=rfl
theorem UR(t:TypeId)(x i:Operand):Bb P n ⟨dst,.index t x i,ty,pos,aft,gd⟩ ρ h K X=A9 (BM ρ x) fun v=>A9 (BM ρ i) fun j=>PV P t v j fun u=>BL n dst u ρ fun ρ'=>K ρ' h:=rfl
theorem Rg(t:TypeId)(x i:Operand)(ok:Bool):Bb P n ⟨dst,.lookup t x i ok,ty,pos,aft,gd⟩ ρ h K X=A9 (BM ρ x) fun v=>A9 (BM ρ i) fun k=>Db P (Instr.lookup t v k ok) h fun u h'=>BL n dst u ρ fun ρ'=>K ρ' h':=rfl
theorem LY(t:TypeId)(x i y:Operand):Bb P n ⟨dst,.mapUpdate t x i y,ty,pos,aft,gd⟩ ρ h K X=A9 (BM ρ x) fun m=>A9 (BM ρ i) fun k=>A9 (BM ρ y) fun v=>Db P (do Instr.mapUpdate t m k v;Pure.pure undef) h fun u h'=>BL n dst u ρ fun ρ'=>K ρ' h':=rfl
theorem Q8(t:TypeId)(x i y:Operand):Bb P n ⟨dst,.insert t x i y,ty,pos,aft,gd⟩ ρ h K X=A9 (BM ρ x) fun m=>A9 (BM ρ i) fun k=>A9 (BM ρ y) fun v=>Db P (do Instr.mapUpdate t m k v;Pure.pure undef) h fun u h'=>BL n dst u ρ fun ρ'=>K ρ' h':=rfl
theorem TV(t:TypeId)(x:Operand):Bb P n ⟨dst,.range t x,ty,pos,aft,gd⟩ ρ h K X=A9 (BM ρ x) fun v=>Db P (Instr.range t v) h fun u h'=>BL n dst u ρ fun ρ'=>K ρ' h':=rfl
theorem Xq(x:Operand)(s:Bool):Bb P n ⟨dst,.next x s,ty,pos,aft,gd⟩ ρ h K X=A9 (BM ρ x) fun v=>Db P (Instr.next v s ty) h fun u h'=>BL n dst u ρ fun ρ'=>K ρ' h':=rfl
theorem Jp(x:Operand)(t a:TypeId)(ok:Bool):Bb P n ⟨dst,.typeAssert x t a ok,ty,pos,aft,gd⟩ ρ h K X=A9 (BM ρ x) fun v=>Db P (Instr.typeAssert v t a ok) h fun u h'=>BL n dst u ρ fun ρ'=>K ρ' h':=rfl
def exW(v:Value)(i:Nat)(K:Value→Prop):Prop:=match v with| .tuple vs=>A9 vs[i]? K|_=>False
theorem VY(v:Value)(l:List Value)(K:Value→Prop):exW (.tuple (List.toArray (v::l))) 0 K=K v:=rfl
theorem UZ(v:Value)(l:List Value)(i:Nat)(K:Value→Prop):exW (.tuple (List.toArray (v::l))) (i+1) K=exW (.tuple l.toArray) i K:=by simp[exW]
theorem Nq(x:Operand)(i:Nat):Bb P n ⟨dst,.extract x i,ty,pos,aft,gd⟩ ρ h K X=A9 (BM ρ x) fun v=>exW v i fun u=>BL n dst u ρ fun ρ'=>K ρ' h:=by
 unfold Bb Jq exW;rfl
theorem eS(x:Operand)(t:TypeId):Bb P n ⟨dst,.call ⟨.builtin .len,#[x],#[t]⟩,ty,pos,aft,gd⟩ ρ h K X=A9 (BM ρ x) fun v=>Hz P t v h fun u=>BL n dst u ρ fun ρ'=>K ρ' h:=by
 unfold Bb Jq
 simp only[G8]
 cases BM ρ x<;>simp[A9,Em]
theorem Qq(xs:List Operand)(ts:Array TypeId):Bb P n ⟨dst,.call ⟨.builtin .append,xs.toArray,ts⟩,ty,pos,aft,gd⟩ ρ h K X=A9 (G8 ρ xs) fun vs=>Db P (Builtin.append_ ts ty vs.toArray) h fun v h'=>BL n dst v ρ fun ρ'=>K ρ' h':=rfl
theorem fR(xs:List Operand)(ts:Array TypeId):Bb P n ⟨dst,.call ⟨.builtin .cap,xs.toArray,ts⟩,ty,pos,aft,gd⟩ ρ h K X=A9 (G8 ρ xs) fun vs=>Db P (Builtin.cap_ ts ty vs.toArray) h fun v h'=>BL n dst v ρ fun ρ'=>K ρ' h':=rfl
theorem ZO(xs:List Operand)(ts:Array TypeId):Bb P n ⟨dst,.call ⟨.builtin .copy,xs.toArray,ts⟩,ty,pos,aft,gd⟩ ρ h K X=A9 (G8 ρ xs) fun vs=>Db P (Builtin.copy_ ts ty vs.toArray) h fun v h'=>BL n dst v ρ fun ρ'=>K ρ' h':=rfl
theorem RG(xs:List Operand)(ts:Array TypeId):Bb P n ⟨dst,.call ⟨.builtin .delete,xs.toArray,ts⟩,ty,pos,aft,gd⟩ ρ h K X=A9 (G8 ρ xs) fun vs=>Db P (Builtin.delete_ ts ty vs.toArray) h fun v h'=>BL n dst v ρ fun ρ'=>K ρ' h':=rfl
theorem ax(f:Operand)(xs:List Operand)(ts:Array TypeId):Bb P n ⟨dst,.call ⟨.value f,xs.toArray,ts⟩,ty,pos,aft,gd⟩ ρ h K X=A9 (BM ρ f) fun fv=>A9 (G8 ρ xs) fun vs=>Tn P fv vs h (@oL n dst ρ K X ()):=rfl
def panW(v:Value)(X:List PanicEntry→Prop):Prop:=match v with| .iface t u=>X [{v:=.iface t u,recovered:=false}]|_=>False
theorem Oe(t:TypeId)(u:Value)(X:List PanicEntry→Prop):panW (.iface t u) X=X [{v:=.iface t u,recovered:=false}]:=rfl
theorem VC(x:Operand):Bb P n ⟨dst,.panic x,ty,pos,aft,gd⟩ ρ h K X=A9 (BM ρ x) fun v=>panW v fun ch=>X ch h:=by
 unfold Bb panW;rfl
theorem QZ(d:Nat)(v:Value)(k:Bc→Prop):BL n (some d) v ρ k=Br (d<n) (k ((d,some v)::ρ)):=rfl
theorem Po(v:Value)(k:Bc→Prop):BL n none v ρ k=k ρ:=rfl
theorem TA(v:Value): @oL n dst ρ K X () (.returned v) h=BL n dst v ρ fun ρ'=>K ρ' h:=rfl
theorem WV(ch:List PanicEntry): @oL n dst ρ K X () (.panicked ch) h=X ch h:=rfl
theorem O4(want b c:Bool)(k:Bc→Prop):Dg n dst want b (.bool c) ρ k=BL n dst (.bool (EM want b c)) ρ k:=rfl
theorem NZ(b c:Bool):EM true b c=(b&&c):=rfl
theorem MM(b c:Bool):EM false b c=(b||c):=rfl
theorem NP(g:FuncId)(fs vs cs:List Value)(Q:Ending→AX→Prop):Tn P (.func (.func g) fs.toArray cs.toArray) vs h Q=if AD P g=true then Bz P g (fs++vs++cs).toArray h Q else fe P g (fs++vs++cs).toArray h Q:=by
 simp[Tn]
theorem bA(t:Nat):get [] t=none:=rfl
theorem Ag(s:Nat)(v:Option Value)(t:Nat):get ((s,v)::ρ) t=if s=t then v else get ρ t:=rfl
theorem Rv:canon [] ρ=[]:=rfl
theorem ON(s:Nat)(l:List Nat):canon (s::l) ρ=TM s (get ρ s) (canon l ρ):=rfl
theorem Ow(s:Nat)(v:Value):TM s (some v) ρ=(s,some v)::ρ:=rfl
theorem Nj(s:Nat):TM s none ρ=ρ:=rfl
theorem aD(t:Nat):BM ρ (.tmp t)=get ρ t:=rfl
theorem QC(v:Value):BM ρ (.const v)=some v:=rfl
theorem NO(g:Nat):BM ρ (.global g)=some (.pointer (some ⟨g,0,none⟩)):=rfl
theorem Ty(f:Nat):BM ρ (.func f)=some (.func (.func f) (List.toArray []) (List.toArray [])):=rfl
theorem aq:G8 ρ []=some []:=rfl
theorem U8(x:Operand)(l:List Operand):G8 ρ (x::l)=Em (BM ρ x) (G8 ρ l):=rfl
theorem Nv(v:Value)(l:List Value):Em (some v) (some l)=some (v::l):=rfl
theorem Ze:Ae ρ []=some []:=rfl
theorem Ud(i:Nat)(x:Operand)(l:List (Nat×Operand)):Ae ρ ((i,x)::l)=Rr i (BM ρ x) (Ae ρ l):=rfl
theorem Oc(i:Nat)(v:Value)(l:List (Nat×Value)):Rr i (some v) (some l)=some ((i,v)::l):=rfl
theorem Qy:Fj ρ none=some none:=rfl
theorem QQ(x:Operand):Fj ρ (some x)=(BM ρ x).map some:=rfl
theorem ZU(c:Cx):XP c ρ h=A9 (LG c.P ρ h c.fn.results.toList) fun vs=>c.R (.returned (one vs)) h:=rfl
theorem Te:LG P ρ h []=some []:=rfl
theorem Ph(r:ResultVar)(l:List ResultVar):LG P ρ h (r::l)=Em (Sj P ρ h r) (LG P ρ h l):=rfl
theorem TH(t:Nat):Sj P ρ h (.tmp t)=get ρ t:=rfl
theorem RD(s:Nat)(t:TypeId):Sj P ρ h (.cell s t)=oRd P h t (Qw (get ρ s)):=rfl
theorem OS(p:Value):Qw (some p)=D7 p:=rfl
theorem WL(t:TypeId)(a:Addr):oRd P h t (some a)=K7 P h t a:=rfl
theorem aG(v:Value):one [v]=v:=rfl
theorem X6(v u:Value):one [v,u]=.tuple #[v,u]:=rfl
theorem Qe(v u x:Value):one [v,u,x]=.tuple #[v,u,x]:=rfl
theorem Vu(v u x y:Value):one [v,u,x,y]=.tuple #[v,u,x,y]:=rfl
theorem L1(a:Addr):D7 (.pointer (some a))=some a:=rfl
theorem FZ(b o i:Nat):(⟨b,o,none⟩:Addr).add i=⟨b,o+i,none⟩:=by
 unfold Addr.add;split
 ·rename_i h;subst h;rfl
 ·rfl
end
section
variable (P:Program) (t:TypeId) (k:IntKind) (a b:Int) (x y:ByteArray) (K:Value→Prop)
theorem Y5:Cv P .add t (.int k a) (.int k b) K=K (.int k (k.wrap (a+b))):=by simp[Cv,Br]
theorem bN:Cv P .sub t (.int k a) (.int k b) K=K (.int k (k.wrap (a - b))):=by simp[Cv,Br]
theorem YH:Cv P .mul t (.int k a) (.int k b) K=K (.int k (k.wrap (a*b))):=by simp[Cv,Br]
theorem Yr:Cv P .quo t (.int k a) (.int k b) K=Br (b≠0) (K (.int k (k.wrap (a.tdiv b)))):=by simp[Cv,Br]
theorem Y3:Cv P .rem t (.int k a) (.int k b) K=Br (b≠0) (K (.int k (a.tmod b))):=by simp[Cv,Br]
theorem bK:Cv P .eql t (.int k a) (.int k b) K=K (.bool (a==b)):=by simp[Cv,Br]
theorem Za:Cv P .neq t (.int k a) (.int k b) K=K (.bool (a !=b)):=by simp[Cv,Br]
theorem Zu:Cv P .lss t (.int k a) (.int k b) K=K (.bool (decide (a<b))):=by simp[Cv,Br]
theorem XW:Cv P .leq t (.int k a) (.int k b) K=K (.bool (decide (a≤b))):=by simp[Cv,Br]
theorem Z8:Cv P .gtr t (.int k a) (.int k b) K=K (.bool (decide (b<a))):=by simp[Cv,Br]
theorem bC:Cv P .geq t (.int k a) (.int k b) K=K (.bool (decide (b≤a))):=by simp[Cv,Br]
theorem X9:Cv P .and t (.int k a) (.int k b) K=K (.int k (k.wrap (BitVec.ofInt k.bits a &&& BitVec.ofInt k.bits b).toNat)):=by simp[Cv,Br]
theorem fk:Cv P .or t (.int k a) (.int k b) K=K (.int k (k.wrap (BitVec.ofInt k.bits a ||| BitVec.ofInt k.bits b).toNat)):=by simp[Cv,Br]
theorem bB(k':IntKind):Cv P .shl t (.int k a) (.int k' b) K=Br (0≤b) (K (.int k (k.wrap (a*2 ^ (min b.toNat k.bits))))):=rfl
theorem YP(k':IntKind):Cv P .shr t (.int k a) (.int k' b) K=Br (0≤b) (K (.int k (a.fdiv (2 ^ (min b.toNat k.bits))))):=rfl
theorem TT:Cv P .add t (.string x) (.string y) K=Br (x.size+y.size≤9223372036854775807) (K (.string (x++y))):=rfl
theorem Vj:Cv P .eql t (.string x) (.string y) K=K (.bool (x.toList==y.toList)):=rfl
theorem VE:Cv P .neq t (.string x) (.string y) K=K (.bool (!(x.toList==y.toList))):=rfl
theorem Tv:Cv P .lss t (.string x) (.string y) K=K (.bool (Op.bytesLess x.toList y.toList)):=rfl
theorem Ul:Cv P .leq t (.string x) (.string y) K=K (.bool (Op.bytesLess x.toList y.toList||x.toList==y.toList)):=rfl
theorem Vc:Cv P .gtr t (.string x) (.string y) K=K (.bool (!(Op.bytesLess x.toList y.toList||x.toList==y.toList))):=rfl
theorem Vb:Cv P .geq t (.string x) (.string y) K=K (.bool (!(Op.bytesLess x.toList y.toList))):=rfl
end
section
variable (P:Program) (t:TypeId) (K:Value→Prop)
theorem WT(a b:Bool):Cv P .eql t (.bool a) (.bool b) K=A9 (KO P 10000 t (.bool a) (.bool b)) fun b=>K (.bool (b)):=by
 show Br (Ez P t (.bool a) (.bool b)=true) _=_
 rw[show(Ez P t (.bool a) (.bool b)=true)=True from eq_true rfl,EJ]
theorem Vl(a b:Bool):Cv P .neq t (.bool a) (.bool b) K=A9 (KO P 10000 t (.bool a) (.bool b)) fun b=>K (.bool (!b)):=by
 show Br (Ez P t (.bool a) (.bool b)=true) _=_
 rw[show(Ez P t (.bool a) (.bool b)=true)=True from eq_true rfl,EJ]
theorem Tc(p q:Option Addr):Cv P .eql t (.pointer p) (.pointer q) K=A9 (KO P 10000 t (.pointer p) (.pointer q)) fun b=>K (.bool (b)):=by
 show Br (Ez P t (.pointer p) (.pointer q)=true) _=_
 rw[show(Ez P t (.pointer p) (.pointer q)=true)=True from eq_true rfl,EJ]
theorem WR(p q:Option Addr):Cv P .neq t (.pointer p) (.pointer q) K=A9 (KO P 10000 t (.pointer p) (.pointer q)) fun b=>K (.bool (!b)):=by
 show Br (Ez P t (.pointer p) (.pointer q)=true) _=_
 rw[show(Ez P t (.pointer p) (.pointer q)=true)=True from eq_true rfl,EJ]
theorem RA(p q:Option Addr)(n m n' m':Nat):Cv P .eql t (.slice p n m) (.slice q n' m') K=A9 (KO P 10000 t (.slice p n m) (.slice q n' m')) fun b=>K (.bool (b)):=by
 show Br (Ez P t (.slice p n m) (.slice q n' m')=true) _=_
 rw[show(Ez P t (.slice p n m) (.slice q n' m')=true)=True from eq_true rfl,EJ]
theorem Pw(p q:Option Addr)(n m n' m':Nat):Cv P .neq t (.slice p n m) (.slice q n' m') K=A9 (KO P 10000 t (.slice p n m) (.slice q n' m')) fun b=>K (.bool (!b)):=by
 show Br (Ez P t (.slice p n m) (.slice q n' m')=true) _=_
 rw[show(Ez P t (.slice p n m) (.slice q n' m')=true)=True from eq_true rfl,EJ]
theorem Uw(p q:Option Nat):Cv P .eql t (.map p) (.map q) K=A9 (KO P 10000 t (.map p) (.map q)) fun b=>K (.bool (b)):=by
 show Br (Ez P t (.map p) (.map q)=true) _=_
 rw[show(Ez P t (.map p) (.map q)=true)=True from eq_true rfl,EJ]
theorem TL(p q:Option Nat):Cv P .neq t (.map p) (.map q) K=A9 (KO P 10000 t (.map p) (.map q)) fun b=>K (.bool (!b)):=by
 show Br (Ez P t (.map p) (.map q)=true) _=_
 rw[show(Ez P t (.map p) (.map q)=true)=True from eq_true rfl,EJ]
theorem Ui(xs ys:Array Value):Cv P .eql t (.agg xs) (.agg ys) K=Br (P.eqGuardType P.depth t=false) (A9 (KO P 10000 t (.agg xs) (.agg ys)) fun b=>K (.bool (b))):=by
 show Br (Ez P t (.agg xs) (.agg ys)=true) _=_
 rw[show(Ez P t (.agg xs) (.agg ys)=true)=(P.eqGuardType P.depth t=false) from by simp[Ez]]
theorem Uz(xs ys:Array Value):Cv P .neq t (.agg xs) (.agg ys) K=Br (P.eqGuardType P.depth t=false) (A9 (KO P 10000 t (.agg xs) (.agg ys)) fun b=>K (.bool (!b))):=by
 show Br (Ez P t (.agg xs) (.agg ys)=true) _=_
 rw[show(Ez P t (.agg xs) (.agg ys)=true)=(P.eqGuardType P.depth t=false) from by simp[Ez]]
end
section
variable (P:Program) (t:TypeId) (d:Nat) (a b:Int) (k:IntKind)
def Wc(P:Program)(d:Nat)(t:TypeId)(u:Option TypeDesc)(x y:Value):Option Bool:=
 match u,x,y with
  |some .bool,.bool a,.bool b=>some (a==b)
  |some (.int _),.int k a,.int k' b=>if k=k' then some (a==b)else none
  |some .string,.string a,.string b=>some (a.toList==b.toList)
  |some (.pointer _),.pointer none,.pointer b=>some b.isNone
  |some (.pointer _),.pointer (some _),.pointer none=>some false
  |some (.pointer te),.pointer (some a),.pointer (some b)=>if a=b∧(P.info? te).isSome=true then some true else none
  |some (.slice _),.slice none _ _,.slice b _ _=>some b.isNone
  |some (.slice _),.slice (some _) _ _,.slice none _ _=>some false
  |some (.map _ _),.map none,.map b=>some b.isNone
  |some (.map _ _),.map (some _),.map none=>some false
  |some (.struct fs),.agg xs,.agg ys=>eqT P d xs ys fs.toList (P.stoodInHeld t)
  |some (.array len te),.agg xs,.agg ys=>eqAO P (KO P d) te len xs ys (P.info? te)
  |_,_,_=>none
where
 eqT (P:Program) (d:Nat) (xs ys:Array Value) (fs:List Field) (b:Bool):Option Bool:=if b then none else bb P (KO P d) xs ys fs
theorem ia(x y:Value):KO P (d+1) t x y=Wc P d t (P.underlying t) x y:=rfl
theorem Ve(x y:Bool):Wc P d t (some .bool) (.bool x) (.bool y)=some (x==y):=rfl
theorem Zf(k':IntKind):Wc P d t (some (.int k')) (.int k a) (.int k b)=some (a==b):=by simp[Wc]
theorem YL(x y:ByteArray):Wc P d t (some .string) (.string x) (.string y)=some (x.toList==y.toList):=rfl
theorem Wb(e:TypeId)(q:Option Addr):Wc P d t (some (.pointer e)) (.pointer none) (.pointer q)=some q.isNone:=rfl
theorem XU(e:TypeId)(q:Option Addr):Wc P d t (some (.pointer e)) (.pointer q) (.pointer none)=some q.isNone:=by cases q<;>rfl
theorem Aq(e:TypeId)(a:Addr)(h:(P.info? e).isSome=true):Wc P d t (some (.pointer e)) (.pointer (some a)) (.pointer (some a))=some true:=by simp[Wc,h]
theorem WA(e:TypeId)(q:Option Addr)(n m n' m':Nat):Wc P d t (some (.slice e)) (.slice none n m) (.slice q n' m')=some q.isNone:=rfl
theorem X2(e:TypeId)(q:Option Addr)(n m n' m':Nat):Wc P d t (some (.slice e)) (.slice q n m) (.slice none n' m')=some q.isNone:=by cases q<;>rfl
theorem WN(e e':TypeId)(q:Option Nat):Wc P d t (some (.map e e')) (.map none) (.map q)=some q.isNone:=rfl
theorem ZV(e e':TypeId)(q:Option Nat):Wc P d t (some (.map e e')) (.map q) (.map none)=some q.isNone:=by cases q<;>rfl
theorem Y0(fs:List Field)(xs ys:Array Value):Wc P d t (some (.struct fs.toArray)) (.agg xs) (.agg ys)=Wc.eqT P d xs ys fs (P.stoodInHeld t):=rfl
theorem Pp(fs:List Field)(xs ys:Array Value):Wc.eqT P d xs ys fs false=bb P (KO P d) xs ys fs:=rfl
theorem Xx(eq:TypeId→Value→Value→Option Bool)(xs ys:Array Value):bb P eq xs ys []=some true:=rfl
theorem S5(eq:TypeId→Value→Value→Option Bool)(xs ys:Array Value)(nm:String)(ft:TypeId)(off:Nat)(em:Bool)(tag pkg:String)(bo:Nat)(l:List Field):
  bb P eq xs ys (⟨nm,ft,off,em,tag,pkg,bo⟩::l)=if nm= "_" then bb P eq xs ys l else Kq (mO eq ft (GW P ft xs off) (GW P ft ys off)) (bb P eq xs ys l):=rfl
theorem UD(eq:TypeId→Value→Value→Option Bool)(x y:Value):mO eq t (some x) (some y)=eq t x y:=rfl
theorem Pk(x y:Bool):Kq (some x) (some y)=some (x&&y):=rfl
def je(s:Option (Bool×Nat))(cs:Array Value)(off:Nat):Option Value:=match s with
 |some (true,n)=>some (.agg (cs.extract off (off+n)))
 |some (false,_)=>cs[off]?
 |none=>none
theorem T1(cs:Array Value)(off:Nat):GW P t cs off=je (DP P t) cs off:=rfl
theorem RT(cs:Array Value)(off n:Nat):je (some (true,n)) cs off=some (.agg (cs.extract off (off+n))):=rfl
theorem Qv(cs:Array Value)(off n:Nat):je (some (false,n)) cs off=cs[off]? :=rfl
theorem Zc:unV .neg (.int k a)=some (.int k (k.wrap (0 - a))):=rfl
theorem YV(x:Bool):unV .not (.bool x)=some (.bool (!x)):=rfl
def Tq(P:Program)(s d:TypeId)(us ud:Option TypeDesc)(x:Value)(h:AX)(K:Value→AX→Prop):Prop:=
 match us,ud with
 |some _,some (.int k)=>match x with
  | .int _ n=>K (.int k (k.wrap n)) h
  |_=>False
 |some (.int _),some .string=>match x with
  | .int _ n=>K (.string (Utf8.encode n)) h
  |_=>False
 |some .string,some .string=>match x with
  | .string b=>K (.string b) h
  |_=>False
 |_,_=>Db P (convert s d x) h K
@[congr] theorem cnvS_congr {P:Program} {s d:TypeId} {us us' ud ud':Option TypeDesc} {x:Value} {h:AX} {K:Value→AX→Prop} (h1:us=us') (h2:ud=ud'):Tq P s d us ud x h K=Tq P s d us' ud' x h K:=by rw[h1,h2]
theorem Xe(s dd:TypeId)(x:Value)(h:AX)(K:Value→AX→Prop):U2 P s dd x h K=Tq P s dd (P.underlying s) (P.underlying dd) x h K:=rfl
theorem K5(s dd:TypeId)(k':IntKind)(ds:TypeDesc)(h:AX)(K:Value→AX→Prop):Tq P s dd (some ds) (some (.int k)) (.int k' a) h K=K (.int k (k.wrap a)) h:=by cases ds<;>rfl
theorem JH(s dd:TypeId)(k':IntKind)(h:AX)(K:Value→AX→Prop):Tq P s dd (some (.int k)) (some .string) (.int k' a) h K=K (.string (Utf8.encode a)) h:=rfl
theorem K4(s dd:TypeId)(x:ByteArray)(h:AX)(K:Value→AX→Prop):Tq P s dd (some .string) (some .string) (.string x) h K=K (.string x) h:=rfl
theorem HQ(s dd e:TypeId)(x:Value)(h:AX)(K:Value→AX→Prop):Tq P s dd (some .string) (some (.slice e)) x h K=Db P (convert s dd x) h K:=rfl
theorem Fk(s dd e:TypeId)(x:Value)(h:AX)(K:Value→AX→Prop):Tq P s dd (some (.slice e)) (some .string) x h K=Db P (convert s dd x) h K:=rfl
def cT(u:Option TypeDesc)(x:ByteArray)(K:Value→Prop):Prop:=Br (u=some .string) (K (.int .i64 x.size))
@[congr] theorem lenS_congr {u u':Option TypeDesc} {x:ByteArray} {K:Value→Prop} (h1:u=u'):cT u x K=cT u' x K:=by rw[h1]
theorem Zv(x:ByteArray)(h:AX)(K:Value→Prop):Hz P t (.string x) h K=cT (P.underlying t) x K:=rfl
theorem LM(x:ByteArray)(K:Value→Prop):cT (some .string) x K=K (.int .i64 x.size):=by simp[cT,Br]
theorem ZM(p:Option Addr)(n m:Nat)(h:AX)(K:Value→Prop):Hz P t (.slice p n m) h K=A9 (PR P t) fun _=>K (.int .i64 n):=rfl
def V8(u:Option TypeDesc)(o:Option Obj)(K:Value→Prop):Prop:=match u,o with|some (.map _ _),some (.map es _)=>K (.int .i64 es.size)|_,_=>False
@[congr] theorem lenM_congr {u u':Option TypeDesc} {o o':Option Obj} {K:Value→Prop} (h1:u=u') (h2:o=o'):V8 u o K=V8 u' o' K:=by rw[h1,h2]
theorem So(r:Nat)(h:AX)(K:Value→Prop):Hz P t (.map (some r)) h K=V8 (P.underlying t) h[r]? K:=rfl
theorem Kv(x y:TypeId)(es:Array MapEntry)(cl:Nat)(K:Value→Prop):V8 (some (.map x y)) (some (.map es cl)) K=K (.int .i64 es.size):=rfl
def iN(u:Option TypeDesc)(x:ByteArray)(n:Int)(K:Value→Prop):Prop:=Br (u=some .string∧0≤n) (A9 x.data[n.toNat]? fun b=>K (.int .u8 b.toNat))
@[congr] theorem idxS_congr {u u':Option TypeDesc} {x:ByteArray} {n:Int} {K:Value→Prop} (h1:u=u'):iN u x n K=iN u' x n K:=by rw[h1]
theorem Xl(x:ByteArray)(K:Value→Prop):PV P t (.string x) (.int k a) K=iN (P.underlying t) x a K:=rfl
theorem Kj(x:ByteArray)(K:Value→Prop):iN (some .string) x a K=Br (0≤a) (A9 x.data[a.toNat]? fun b=>K (.int .u8 b.toNat)):=by simp[iN]
theorem Zr(p:Addr)(n m:Nat)(K:Value→Prop):PQ P t (.slice (some p) n m) (.int k a) K=A9 (PR P t) fun e=>Br (0≤a∧a<n) (K (.pointer (some (p.add (a.toNat*e.2.1))))):=rfl
theorem Ly(n:Nat):DL none n=some (n:Int):=rfl
theorem Mf(n:Nat):DL (some (.int k a)) n=some a:=rfl
def slS(u:Option TypeDesc)(x:ByteArray)(l r:Int)(K:Value→Prop):Prop:=Br (u=some .string∧0≤l∧l≤r∧r≤x.size) (K (.string (x.extract l.toNat r.toNat)))
@[congr] theorem slS_congr {u u':Option TypeDesc} {x:ByteArray} {l r:Int} {K:Value→Prop} (h1:u=u'):slS u x l r K=slS u' x l r K:=by rw[h1]
theorem kA(x:ByteArray)(lo hi:Option Value)(K:Value→Prop):ll P t (.string x) lo hi K=A9 (DL lo 0) fun l=>A9 (DL hi x.size) fun r=>slS (P.underlying t) x l r K:=rfl
theorem Mz(x:ByteArray)(l r:Int)(K:Value→Prop):slS (some .string) x l r K=Br (0≤l∧l≤r∧r≤x.size) (K (.string (x.extract l.toNat r.toNat))):=by simp[slS]
theorem dR(p:Option Addr)(n m:Nat)(lo hi:Option Value)(K:Value→Prop):ll P t (.slice p n m) lo hi K=
  A9 (PR P t) fun e=>A9 (DL lo 0) fun l=>A9 (DL hi n) fun r=>Br (0≤l∧l≤r∧r≤m) (K (.slice (if m=l.toNat then p else p.map (·.add (l.toNat*e.2.1))) (r.toNat - l.toNat) (m - l.toNat))):=rfl
def rdS(s:Option (Bool×Nat))(h:AX)(p:Addr):Option Value:=match s with
 |some (true,n)=>Hs (Gb h p n)
 |some (false,_)=>Fe h p
 |none=>none
theorem Vx(h:AX)(p:Addr):K7 P h t p=rdS (DP P t) h p:=rfl
theorem Z1(h:AX)(p:Addr)(n:Nat):rdS (some (true,n)) h p=Hs (Gb h p n):=rfl
theorem aJ(h:AX)(p:Addr)(n:Nat):rdS (some (false,n)) h p=Fe h p:=rfl
theorem Rc(c:Array Value):Hs (some c)=some (.agg c):=rfl
def Oi(o:Option Obj)(i:Nat):Option Value:=match o with|some (.cells c _ _)=>c[i]? |_=>none
theorem N1(h:AX)(g o:Nat):Fe h ⟨g,o,none⟩=Oi h[g]? o:=rfl
theorem MR(c:Array Value)(e:TypeId)(fr:Nat×Nat)(o:Nat):Oi (some (.cells c e fr)) o=c[o]? :=rfl
def EZ(b:Option Obj)(o n:Nat):Option (Array Value):=match b with|some (.cells c _ _)=>if o+n≤c.size then some (c.extract o (o+n))else none|_=>none
theorem J8(h:AX)(g o n:Nat):Gb h ⟨g,o,none⟩ n=EZ h[g]? o n:=by
 unfold Gb EZ;simp;rfl
theorem EP(c:Array Value)(e:TypeId)(fr:Nat×Nat)(o n:Nat):EZ (some (.cells c e fr)) o n=if o+n≤c.size then some (c.extract o (o+n))else none:=rfl
def wrS(h:AX)(g:Nat)(b:Option Obj)(o:Nat)(vs:List Value):Option AX:=match b with
 |some (.cells c e fr)=>if o+vs.length≤c.size∧(fr.2≤o∨o+vs.length≤fr.1)∧Ek vs=true then some (h.setIfInBounds g (.cells (DE c o vs) e fr))else none
 |_=>none
theorem J5(h:AX)(g o:Nat)(vs:List Value):HG h ⟨g,o,none⟩ vs=wrS h g h[g]? o vs:=by
 unfold HG wrS;simp;rfl
theorem Qa(h:AX)(g:Nat)(c:Array Value)(e:TypeId)(o:Nat)(vs:List Value):wrS h g (some (.cells c e (0,0))) o vs=
  if o+vs.length≤c.size∧Ek vs=true then some (h.setIfInBounds g (.cells (DE c o vs) e))else none:=by simp[wrS]
theorem Od(c:Array Value)(o:Nat):DE c o []=c:=rfl
theorem L9(c:Array Value)(o:Nat)(v:Value)(l:List Value):DE c o (v::l)=DE (c.setIfInBounds o v) (o+1) l:=rfl
theorem MY:Ek []=true:=rfl
theorem K6(v:Value)(l:List Value):Ek (v::l)=(v.oneCell'&&Ek l):=rfl
theorem X8(vs:List (Nat×Value)):iJ P t vs=mV P t (Cj P t) (DU P t) vs:=rfl
theorem Q5(z:Value)(vs:List (Nat×Value)):mV P t true (some z) vs=Hs (Lc P t z.cells vs):=rfl
def vO(P:Program)(t:TypeId)(c:Array Value)(v:Value)(l:List (Nat×Value))(f:Option (Nat×Bool×Nat)):Option (Array Value):=match f with
 |some (off,_,n)=>if v.cells.size=n∧off+n≤c.size then Lc P t (DE c off v.cells.toList) l else none
 |none=>none
theorem UG(c:Array Value):Lc P t c []=some c:=rfl
theorem QY(c:Array Value)(i:Nat)(v:Value)(l:List (Nat×Value)):Lc P t c ((i,v)::l)=vO P t c v l (Cr P t i):=by
 unfold Lc vO;rfl
theorem Px(c:Array Value)(v:Value)(l:List (Nat×Value))(off n:Nat)(g:Bool):vO P t c v l (some (off,g,n))=if v.cells.size=n∧off+n≤c.size then Lc P t (DE c off v.cells.toList) l else none:=rfl
def fldS(x:Value)(f:Option (Nat×Bool×Nat)):Option Value:=match x,f with
 | .agg cs,some (off,true,n)=>some (.agg (cs.extract off (off+n)))
 | .agg cs,some (off,false,_)=>cs[off]?
 |_,_=>none
theorem ay(x:Value)(i:Nat):gO P t i x=fldS x (Cr P t i):=rfl
theorem VV(c:Array Value)(off n:Nat):fldS (.agg c) (some (off,true,n))=some (.agg (c.extract off (off+n))):=rfl
theorem VU(c:Array Value)(off n:Nat):fldS (.agg c) (some (off,false,n))=c[off]? :=rfl
theorem TK(x:Bool):(Value.bool x).oneCell'=true:=rfl
theorem YC(k:IntKind)(n:Int):(Value.int k n).oneCell'=true:=rfl
theorem PC(s:ByteArray):(Value.string s).oneCell'=true:=rfl
theorem MA(p:Option Addr):(Value.pointer p).oneCell'=true:=rfl
theorem P3(p:Option Addr)(n m:Nat):(Value.slice p n m).oneCell'=true:=rfl
theorem YF(p:Option Nat):(Value.map p).oneCell'=true:=rfl
theorem Ux(f:Fn)(x y:Array Value):(Value.func f x y).oneCell'=true:=rfl
theorem RN(c:Array Value):(Value.agg c).cells=c:=rfl
theorem P7(k:IntKind)(n:Int):(Value.int k n).cells= #[.int k n]:=rfl
theorem OJ(x:Bool):(Value.bool x).cells= #[.bool x]:=rfl
theorem Kx(s:ByteArray):(Value.string s).cells= #[.string s]:=rfl
theorem Jc(p:Option Addr):(Value.pointer p).cells= #[.pointer p]:=rfl
theorem MO(p:Option Addr)(n m:Nat):(Value.slice p n m).cells= #[.slice p n m]:=rfl
theorem RS(p:Option Nat):(Value.map p).cells= #[.map p]:=rfl
theorem Nc(f:Fn)(x y:Array Value):(Value.func f x y).cells= #[.func f x y]:=rfl
end
theorem aO(b:Bool)(A B:Prop):Lo b A B=if b=true then A else B:=by cases b<;>simp[Lo]
theorem Rh[dd:DefD](c:Cx)(k:List It)(ρ:Bc)(h:AX):mY c (some k) ρ h=Dc c k ρ h:=rfl
@[congr] theorem denX_congr [dd:DefD] {c:Cx} {k k':Option (List It)} {ρ:Bc} {h:AX} (e:k=k'):mY c k ρ h=mY c k' ρ h:=by rw[e]
theorem Q7(id:Nat)(k:List It):DG id (.blk id::k)=some k:=by simp[DG]
theorem Oo(id i:Nat)(k:List It)(hne: ¬i=id):DG id (.blk i::k)=DG id k:=by simp[DG,hne]
theorem NV(id:Nat)(x:Code)(k:List It):DG id (.code x::k)=DG id k:=rfl
theorem Ug(id:Nat)(x:Code)(k:List It):DG id (.lp x::k)=DG id k:=rfl
theorem VK(id:Nat)(x:Code)(k:List It):DG id (.sc x::k)=DG id k:=rfl
section
variable (P:Program) (n:Nat) (all:List Oper) (m:Nat) (ρ:Bc) (h:AX) (K:Bc→AX→Prop) (X:List PanicEntry→AX→Prop)
variable (dst:Option Nat) (ty:TypeId) (pos:String) (aft:Array Edge) (gd:Option (Nat×Bool)) (rest:List Oper)
def Vy(cur:Option (Nat×Bool))(j:Nat)(want:Bool)(g after:List Oper)(s:Nat)(b:Bool)(pure:Bool):Prop:=
 match pure,after with
 |true,p::after'=>match DD want s p.op with
  |some y=>CM P n all m (some (j,want)) g ρ h (fun ρ' h'=>A9 (BM ρ' y) fun c=>Dg n p.dst want b c (D5 g ρ) fun ρ''=>CM P n all m cur after' ρ'' h' K X) X
  |none=>False
 |_,after=>Lo (b==want) (CM P n all m (some (j,want)) g ((s,some (.bool want))::ρ) h (fun ρ' h'=>CM P n all m cur after ρ' h' K X) X) (CM P n all m cur after (D5 g ((s,some (.bool (!want)))::ρ)) h K X)
@[congr] theorem grpP_congr {P:Program} {n:Nat} {all:List Oper} {m:Nat} {ρ:Bc} {h:AX} {K:Bc→AX→Prop} {X:List PanicEntry→AX→Prop} {cur:Option (Nat×Bool)} {j:Nat} {want:Bool} {g g' after after':List Oper} {s:Nat} {b pu pu':Bool} (h1:g=g') (h2:after=after') (h3:pu=pu'):
  Vy P n all m ρ h K X cur j want g after s b pu=Vy P n all m ρ h K X cur j want g' after' s b pu':=by rw[h1,h2,h3]
theorem XV(cur:Option (Nat×Bool))(j:Nat)(want:Bool)(g after:List Oper)(s:Nat)(b:Bool):vF P n all m ρ h K X cur j want g after s b=Br (C7 all s j want [] g=true) (Vy P n all m ρ h K X cur j want g after s b (FF g)):=rfl
theorem bU(cur:Option (Nat×Bool))(j:Nat)(want:Bool)(g after:List Oper)(s:Nat)(b:Bool):Vy P n all m ρ h K X cur j want g after s b false=
  Lo (b==want) (CM P n all m (some (j,want)) g ((s,some (.bool want))::ρ) h (fun ρ' h'=>CM P n all m cur after ρ' h' K X) X) (CM P n all m cur after (D5 g ((s,some (.bool (!want)))::ρ)) h K X):=rfl
theorem YB(cur:Option (Nat×Bool))(j:Nat)(g after:List Oper)(s:Nat)(b:Bool)(y:Operand):Vy P n all m ρ h K X cur j false g (⟨dst,.pick (.tmp s) (.const (.bool true)) y,ty,pos,aft,gd⟩::after) s b true=
  CM P n all m (some (j,false)) g ρ h (fun ρ' h'=>A9 (BM ρ' y) fun c=>Dg n dst false b c (D5 g ρ) fun ρ''=>CM P n all m cur after ρ'' h' K X) X:=by simp[Vy,DD]
theorem WD(cur:Option (Nat×Bool))(j:Nat)(g after:List Oper)(s:Nat)(b:Bool)(y:Operand):Vy P n all m ρ h K X cur j true g (⟨dst,.pick (.tmp s) y (.const (.bool false)),ty,pos,aft,gd⟩::after) s b true=
  CM P n all m (some (j,true)) g ρ h (fun ρ' h'=>A9 (BM ρ' y) fun c=>Dg n dst true b c (D5 g ρ) fun ρ''=>CM P n all m cur after ρ'' h' K X) X:=by simp[Vy,DD]
end
theorem Q0(a b:Nat)(l:List Nat):(a∈b::l)=(a=b∨a∈l):=by simp
theorem U4(a:Nat):(a∈([]:List Nat))=False:=by simp
theorem QJ(all:List Oper)(s j:Nat)(want:Bool)(sk:List Nat):C7 all s j want sk []=true:=by simp[C7]
theorem O9(all:List Oper)(s j:Nat)(want:Bool)(sk:List Nat)(d j':Nat)(w':Bool)(op:Op)(ty:TypeId)(pos:String)(aft:Array Edge)(l:List Oper):C7 all s j want sk (⟨some d,op,ty,pos,aft,some (j',w')⟩::l)=
  if d=s then false else if j'=j∧w'=want then C7 all s j want (d::sk) l else grpS all s j want sk d l (C2 all j'):=by
 simp only[C7,grpS];cases C2 all j'<;>rfl
theorem RX(all:List Oper)(s j:Nat)(want:Bool)(sk:List Nat)(d s':Nat)(l:List Oper):grpS all s j want sk d l (some s')=if s'∈sk then C7 all s j want (d::sk) l else false:=rfl
theorem ZH(ρ:Bc):D5 [] ρ=ρ:=rfl
theorem V1(d:Nat)(op:Op)(ty:TypeId)(pos:String)(aft:Array Edge)(gd:Option (Nat×Bool))(l:List Oper)(ρ:Bc):D5 (⟨some d,op,ty,pos,aft,gd⟩::l) ρ=D5 l ((d,none)::ρ):=rfl
theorem P6(x:Operand):Cw (.move x)=true:=rfl
theorem QF(x a b:Operand):Cw (.pick x a b)=true:=rfl
theorem Kw(x:Operand)(i:Nat):Cw (.extract x i)=true:=rfl
theorem Rt(op:UnOp)(t:TypeId)(x:Operand):Cw (.unOp op t x)=true:=rfl
theorem VH(xs:Array Operand)(ts:Array TypeId):Cw (.call ⟨.builtin .len,xs,ts⟩)=true:=rfl
def Fy(op:BinOp):Bool:=match op with| .quo| .rem| .shl| .shr=>false|_=>true
theorem OA(op:BinOp)(t:TypeId)(x y:Operand)(t':TypeId):Cw (.binOp op t x y t')=Fy op:=rfl
theorem QB:Fy .eql=true:=rfl
theorem Ru:Fy .neq=true:=rfl
theorem Qx:Fy .lss=true:=rfl
theorem RF:Fy .leq=true:=rfl
theorem Ps:Fy .gtr=true:=rfl
theorem RY:Fy .geq=true:=rfl
theorem QU:Fy .add=true:=rfl
theorem Rw:Fy .sub=true:=rfl
theorem Rb:Fy .mul=true:=rfl
theorem QD:Fy .and=true:=rfl
theorem V9:Fy .or=true:=rfl
theorem Ql:Fy .quo=false:=rfl
theorem Qi:Fy .rem=false:=rfl
theorem Qk(t:TypeId)(x:Operand):Cw (.load t x)=false:=rfl
theorem Nh(t:TypeId)(x y:Operand):Cw (.index t x y)=false:=rfl
theorem JF(t:TypeId)(x y:Operand):Cw (.indexAddr t x y)=false:=rfl
theorem Hx(t:TypeId)(x:Operand)(i:Nat):Cw (.fieldAddr t x i)=false:=rfl
theorem PF(t:TypeId)(x:Operand)(i:Nat):Cw (.field t x i)=false:=rfl
theorem Jd(x:Operand):Cw (.nilCheck x)=false:=rfl
theorem P2(f:Operand)(xs:Array Operand)(ts:Array TypeId):Cw (.call ⟨.value f,xs,ts⟩)=false:=rfl
theorem NH(t:TypeId)(x:Operand)(a b c:Option Operand):Cw (.slice t x a b c)=false:=rfl
theorem KT(t t':TypeId)(x:Operand):Cw (.convert t t' x)=false:=rfl
theorem ML(t:TypeId)(x y:Operand)(ok:Bool):Cw (.lookup t x y ok)=false:=rfl
theorem OK(t:TypeId)(ps:Array (Nat×Operand)):Cw (.build t ps)=false:=rfl
theorem OL(t:TypeId):Cw (.alloc t)=false:=rfl
theorem WQ(t:TypeId)(x:Operand):Cw (.box t x)=false:=rfl
theorem Me(x:Operand):Cw (.assign x)=false:=rfl
theorem C9:type_of% (An @dR (An @Mz (An @kA (An @Zr (An @Kj (An @Xl (An @Kv (An @So (An @ZM (An @LM (An @Zv (An @Fk (An @HQ (An @K4 (An @JH (An @K5 (An @Xe (An @Xc (An @aP (An @eF (An @dG (An @Vq (An @RW (An @aS (An @Zt (An @Tr (An @RV (An @Pl (An @V6 (An @NQ (An @Mc (An @Us (An @Rh (An @Ot (An @LV (An @Pn (An @Lx (An @KA (An @QN (An @QZ (An @Po (An @TA (An @WV (An @O4 (An @NP (An @ZU (An @Uj (An @Oe (An @VY (An @UZ (An @XV (An @bH (An @Qo (An @au (An @TJ (An @g9 (An @VO (An @Jo (An @Zo (An @TZ (An @MD (An @T9 (An @Z0 (An @Nz (An @G6 (An @MQ (An @Oy (An @Kh (An @Ue (An @LX (An @T6 (An @LQ (An @UR (An @Rg (An @LY (An @Q8 (An @TV (An @Xq (An @Jp (An @Nq (An @eS (An @Qq (An @fR (An @ZO (An @RG (An @ax (An @VC (An @Y5 (An @bN (An @YH (An @Yr (An @Y3 (An @bK (An @Za (An @Zu (An @XW (An @Z8 (An @bC (An @X9 (An @fk (An @bB (An @YP (An @TT (An @Vj (An @VE (An @Tv (An @Ul (An @Vc (An @Vb (An @WT (An @Vl (An @Tc (An @WR (An @RA (An @Pw (An @Uw (An @TL (An @Ui @Uz)))))))))))))))))))))))))))))))))))))))))))))))))))))))))))))))))))))))))))))))))))))))))))))))))))))))))))))))))))))):=⟨@dR,@Mz,@kA,@Zr,@Kj,@Xl,@Kv,@So,@ZM,@LM,@Zv,@Fk,@HQ,@K4,@JH,@K5,@Xe,@Xc,@aP,@eF,@dG,@Vq,@RW,@aS,@Zt,@Tr,@RV,@Pl,@V6,@NQ,@Mc,@Us,@Rh,@Ot,@LV,@Pn,@Lx,@KA,@QN,@QZ,@Po,@TA,@WV,@O4,@NP,@ZU,@Uj,@Oe,@VY,@UZ,@XV,@bH,@Qo,@au,@TJ,@g9,@VO,@Jo,@Zo,@TZ,@MD,@T9,@Z0,@Nz,@G6,@MQ,@Oy,@Kh,@Ue,@LX,@T6,@LQ,@UR,@Rg,@LY,@Q8,@TV,@Xq,@Jp,@Nq,@eS,@Qq,@fR,@ZO,@RG,@ax,@VC,@Y5,@bN,@YH,@Yr,@Y3,@bK,@Za,@Zu,@XW,@Z8,@bC,@X9,@fk,@bB,@YP,@TT,@Vj,@VE,@Tv,@Ul,@Vc,@Vb,@WT,@Vl,@Tc,@WR,@RA,@Pw,@Uw,@TL,@Ui,@Uz⟩
theorem Sy(ρ:Bc)(K:Bc→Prop):EW ρ K=K ρ:=rfl
theorem vmV:type_of% (An @aO (An @Sy (An @Mz (An @Kj (An @Kv (An @LM (An @Fk (An @HQ (An @K4 (An @JH (An @K5 (An @Ux (An @YF (An @P3 (An @MA (An @PC (An @YC (An @TK (An @VU (An @VV (An @ay (An @Px (An @QY (An @Q5 (An @X8 (An @Qa (An @J5 (An @EP (An @J8 (An @MR (An @N1 (An @aJ (An @Z1 (An @Vx (An @Qv (An @RT (An @T1 (An @Pk (An @UD (An @S5 (An @Xx (An @Pp (An @Y0 (An @ZV (An @WN (An @X2 (An @WA (An @XU (An @Wb (An @YL (An @Zf (An @Ve (An @ia (An @VW (An @EJ (An @O1 (An @Lu (An @QO (An @Nl (An @Pz (An @PA (An @MP (An @MX (An @Qn (An @OR (An @P6 (An @QF (An @Kw (An @OA (An @Rt (An @VH (An @Qk (An @Nh (An @JF (An @Hx (An @PF (An @Jd (An @P2 (An @NH (An @KT (An @ML (An @OK (An @OL (An @WQ (An @Me (An @QB (An @Ru (An @Qx (An @RF (An @Ps (An @RY (An @QU (An @Rw (An @Rb (An @Ql (An @Qi (An @QD (An @V9 (An @bA (An @Ag (An @Rv (An @ON (An @Ow (An @Nj (An @aD (An @QC (An @NO (An @Ty (An @aq (An @U8 (An @Nv (An @Ze (An @Ud (An @Oc (An @Qy (An @QQ (An @Te (An @Ph (An @TH (An @RD (An @OS (An @WL (An @aG (An @X6 (An @Qe (An @Vu (An @L1 (An @FZ (An @Zc (An @YV (An @Ly (An @Mf (An @Rc (An @Od (An @L9 (An @MY (An @K6 (An @UG (An @RN (An @P7 (An @OJ (An @Kx (An @Jc (An @MO (An @RS (An @Nc (An @NZ (An @MM (An @Q7 (An @Oo (An @NV (An @Ug (An @VK (An @bU (An @QJ (An @O9 (An @RX (An @ZH (An @V1 (An @Q0 (An @U4 (An @YB @WD)))))))))))))))))))))))))))))))))))))))))))))))))))))))))))))))))))))))))))))))))))))))))))))))))))))))))))))))))))))))))))))))))))))))))))))))))))))))))))))))))):=⟨@aO,@Sy,@Mz,@Kj,@Kv,@LM,@Fk,@HQ,@K4,@JH,@K5,@Ux,@YF,@P3,@MA,@PC,@YC,@TK,@VU,@VV,@ay,@Px,@QY,@Q5,@X8,@Qa,@J5,@EP,@J8,@MR,@N1,@aJ,@Z1,@Vx,@Qv,@RT,@T1,@Pk,@UD,@S5,@Xx,@Pp,@Y0,@ZV,@WN,@X2,@WA,@XU,@Wb,@YL,@Zf,@Ve,@ia,@VW,@EJ,@O1,@Lu,@QO,@Nl,@Pz,@PA,@MP,@MX,@Qn,@OR,@P6,@QF,@Kw,@OA,@Rt,@VH,@Qk,@Nh,@JF,@Hx,@PF,@Jd,@P2,@NH,@KT,@ML,@OK,@OL,@WQ,@Me,@QB,@Ru,@Qx,@RF,@Ps,@RY,@QU,@Rw,@Rb,@Ql,@Qi,@QD,@V9,@bA,@Ag,@Rv,@ON,@Ow,@Nj,@aD,@QC,@NO,@Ty,@aq,@U8,@Nv,@Ze,@Ud,@Oc,@Qy,@QQ,@Te,@Ph,@TH,@RD,@OS,@WL,@aG,@X6,@Qe,@Vu,@L1,@FZ,@Zc,@YV,@Ly,@Mf,@Rc,@Od,@L9,@MY,@K6,@UG,@RN,@P7,@OJ,@Kx,@Jc,@MO,@RS,@Nc,@NZ,@MM,@Q7,@Oo,@NV,@Ug,@VK,@bU,@QJ,@O9,@RX,@ZH,@V1,@Q0,@U4,@YB,@WD⟩
end Go.Vm
