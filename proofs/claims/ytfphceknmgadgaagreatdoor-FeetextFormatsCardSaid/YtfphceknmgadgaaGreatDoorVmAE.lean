/-
The second evaluator's equations, for simp.
Conditions: none. Generic: it speaks of no program.
-/
import Derived.Test.YtfphceknmgadgaaGreatDoorVmAK
set_option linter.unusedSimpArgs false
set_option linter.unusedVariables false
namespace Go.Vm
def panY(X:List PanicEntry→AH→Prop)(v:Value)(A:AH)(_t:Tg X:=()):Prop:=match v with| .iface t u=>X [{v:=.iface t u,recovered:=false}] A|_=>False
theorem Xv(X:List PanicEntry→AH→Prop)(t:TypeId)(u:Value)(A:AH):panY X (.iface t u) A=X [{v:=.iface t u,recovered:=false}] A:=rfl
def mmW(v u:Value)(K:IntKind→Int→Int→Prop):Prop:=match v,u with| .int k a,.int _ b=>K k a b|_,_=>False
def kk(u:Option TypeDesc)(K:Value→Prop):Prop:=match u with|some (.map _ _)=>K (.int .i64 0)|_=>False
@[congr] theorem lenN_congr {u u':Option TypeDesc} {K:Value→Prop} (h1:u=u'):kk u K=kk u' K:=by rw[h1]
theorem B9{c K:Prop}(h:c):Br c K=K:=by simp[Br,h]
def Ec(o:Oper):Oper:=⟨o.dst,o.op,o.type,"",#[],o.guard⟩
def Bj(l:List Oper):List Oper:=l.map Ec
theorem HM:Bj []=[]:=rfl
theorem Mi(dst:Option Nat)(op:Op)(ty:TypeId)(pos:String)(aft:Array Edge)(gd:Option (Nat×Bool))(l:List Oper):Bj (⟨dst,op,ty,pos,aft,gd⟩::l)=⟨dst,op,ty,"",#[],gd⟩::Bj l:=rfl
theorem Nx(l k:List Oper):Bj (List.append l k)=Bj l++Bj k:=by simp[Bj]
theorem ME(l k:List Oper):Bj (l++k)=Bj l++Bj k:=by simp[Bj]
theorem Fh(l:List Oper)(j:Nat):C2 (Bj l) j=C2 l j:=by
 unfold C2 Bj
 rw[List.getElem?_map]
 cases l[j]? <;>rfl
theorem Hl(cur:Option (Nat×Bool)): ∀l:List Oper,Bv cur (Bj l)=Bj (Bv cur l)
 | []=>rfl
 |o::l=>by
  show Bv cur (Ec o::Bj l)=_
  unfold Bv
  show(if o.guard=cur then _ else _)=_
  split
  ·rfl
  ·rw[Hl cur l];rfl
theorem H9(cur:Option (Nat×Bool)): ∀l:List Oper,Cb cur (Bj l)=Bj (Cb cur l)
 | []=>rfl
 |o::l=>by
  show Cb cur (Ec o::Bj l)=_
  unfold Cb
  show(if o.guard=cur then _ else _)=_
  split
  ·rfl
  ·rw[H9 cur l]
theorem L2: ∀l:List Oper,FF (Bj l)=FF l
 | []=>rfl
 |o::l=>by show(Cw o.op&&FF (Bj l))=_;rw[L2 l];rfl
theorem Md(sp:Bool): ∀l:List Oper,GP sp (Bj l)=GP sp l
 | []=>rfl
 |o::l=>by show(Dm sp o.op&&GP sp (Bj l))=_;rw[Md sp l];rfl
theorem FM: ∀(l:List Oper) (ρ:Bc),D5 (Bj l) ρ=D5 l ρ
 | [],_=>rfl
 |o::l,ρ=>by
  show D5 (Ec o::Bj l) ρ=_
  unfold D5
  show(match o.dst with|some d=>D5 (Bj l) ((d,none)::ρ)|none=>D5 (Bj l) ρ)=(match o.dst with|some d=>D5 l ((d,none)::ρ)|none=>D5 l ρ)
  cases o.dst<;>exact FM l _
theorem Hu(all:List Oper)(s j:Nat)(want:Bool): ∀(l:List Oper) (sk:List Nat),C7 (Bj all) s j want sk (Bj l)=C7 all s j want sk l
 | [],_=>by simp[Bj,C7]
 | o::l,sk=>by
  obtain⟨dst,op,ty,pos,aft,gd⟩:=o
  show C7 (Bj all) s j want sk (⟨dst,op,ty,"",#[],gd⟩::Bj l)=_
  cases dst with
  |none=>simp[C7]
  | some d=>cases gd with
   |none=>simp[C7]
   |some g=>
    obtain⟨j',w'⟩:=g
    simp only[C7,Fh,Hu all s j want l]
theorem PL(P:Program)(imp:Imp)(nt:Nat)(all:List Oper): ∀(m:Nat) (cur:Option (Nat×Bool)) (l:List Oper) (ν:Nu) (n:Nat) (ρ:Bc) (A:AH) (K:Nu→Nat→Bc→AH→Prop),
  Bl P imp nt (Bj all) m cur (Bj l) ν n ρ A K=Bl P imp nt all m cur l ν n ρ A K:=by
 intro m
 induction m with
 |zero=>intro cur l ν n ρ A K;cases l<;>rfl
 | succ m ih=>
  intro cur l ν n ρ A K
  cases l with
  |nil=>rfl
  | cons o l=>
   have hcons:Bj (o::l)=Ec o::Bj l:=rfl
   have e1:Bv cur (Ec o::Bj l)=Bj (Bv cur (o::l)):=Hl cur (o::l)
   have e2:Cb cur (Ec o::Bj l)=Bj (Cb cur (o::l)):=H9 cur (o::l)
   rw[hcons]
   unfold Bl
   have hg:(Ec o).guard=o.guard:=rfl
   have hst: ∀K,CB P imp nt (Ec o) ν n ρ A K=CB P imp nt o ν n ρ A K:=fun K=>by cases o;rfl
   simp only[hg,hst,ih,Fh]
   congr 1
   cases o.guard with
   |none=>rfl
   | some jw=>
    obtain⟨j,want⟩:=jw
    simp only
    congr 1
    funext s
    congr 1
    funext v
    cases v<;>try rfl
    simp only
    rw[e1,e2,L2,Hu]
    congr 1
    generalize Cb cur (o::l)=aft
    generalize Bv cur (o::l)=g
    have ih0: ∀ν n ρ A K,Bl P imp nt (Bj all) m cur [] ν n ρ A K=Bl P imp nt all m cur [] ν n ρ A K:=fun ν n ρ A K=>ih cur [] ν n ρ A K
    cases FF g with
    |false=>simp only[ih,FM]
    | true=>cases aft with
     |nil=>simp only[HM,ih,ih0,FM]
     | cons p after=>
      show(match DD want s p.op with|some y=>_|none=>False)=(match DD want s p.op with|some y=>_|none=>False)
      cases DD want s p.op with
      |none=>rfl
      | some y=>
       simp only[ih]
       congr 1
       funext ν n ρ' A
       exact congrArg (fun K=>A9 (BM ρ' y) K) (by
        funext c
        rw[FM]
        show Dg nt p.dst want _ c (D5 g ρ) _=_
        congr 1
        funext ρ''
        exact ih cur after ν n ρ'' A K)
theorem Vf(P:Program)(nt:Nat)(sp:Bool)(all:List Oper)(A:AH): ∀(m:Nat) (cur:Option (Nat×Bool)) (l:List Oper) (ρ:Bc) (K:Bc→Prop),
  CL P nt sp (Bj all) A m cur (Bj l) ρ K=CL P nt sp all A m cur l ρ K:=by
 intro m
 induction m with
 |zero=>intro cur l ρ K;cases l<;>rfl
 | succ m ih=>
  intro cur l ρ K
  cases l with
  |nil=>rfl
  | cons o l=>
   have hcons:Bj (o::l)=Ec o::Bj l:=rfl
   have e1:Bv cur (Ec o::Bj l)=Bj (Bv cur (o::l)):=Hl cur (o::l)
   have e2:Cb cur (Ec o::Bj l)=Bj (Cb cur (o::l)):=H9 cur (o::l)
   rw[hcons]
   unfold CL
   have hg:(Ec o).guard=o.guard:=rfl
   have hst: ∀K,CJ P nt (Ec o) ρ A K=CJ P nt o ρ A K:=fun K=>by cases o;rfl
   simp only[hg,hst,ih,Fh]
   congr 1
   cases o.guard with
   |none=>rfl
   | some jw=>
    obtain⟨j,want⟩:=jw
    simp only
    congr 1
    funext s
    congr 1
    funext v
    cases v<;>try rfl
    simp only
    rw[e1,e2,Md,Hu]
    congr 1
    generalize Cb cur (o::l)=aft
    generalize Bv cur (o::l)=g
    have ih0: ∀ρ K,CL P nt sp (Bj all) A m cur [] ρ K=CL P nt sp all A m cur [] ρ K:=fun ρ K=>ih cur [] ρ K
    cases GP sp g with
    |false=>simp only[ih,FM]
    | true=>cases aft with
     |nil=>simp only[HM,ih,ih0,FM]
     | cons p after=>
      show(match DD want s p.op with|some y=>_|none=>False)=(match DD want s p.op with|some y=>_|none=>False)
      cases DD want s p.op with
      |none=>rfl
      | some y=>
       simp only[ih]
       congr 1
       funext ρ'
       exact congrArg (fun K=>A9 (BM ρ' y) K) (by
        funext c
        rw[FM]
        show Dg nt p.dst want _ c (D5 g ρ) _=_
        congr 1
        funext ρ''
        exact ih cur after ρ'' K)
theorem MU(P:Program)(imp:Imp)(nt:Nat)(all:List Oper): ∀(pl:List (Nat×Nat)) (As:AH) (ν:Nu) (n:Nat) (ρ:Bc) (A:AH) (K:Nu→Nat→Bc→AH→Prop),
  Dw P imp nt (Bj all) pl As ν n ρ A K=Dw P imp nt all pl As ν n ρ A K
 | [],_,_,_,_,_,_=>rfl
 | (i,m)::l,As,ν,n,ρ,A,K=>by
  have e:(Bj all)[i]? =all[i]?.map Ec:=by unfold Bj;rw[List.getElem?_map]
  unfold Dw
  simp only[MU P imp nt all l,e]
  cases all[i]? with
  |none=>rfl
  |some o=>
   obtain⟨dst,op,ty,pos,aft,gd⟩:=o
   simp only[Option.map_some,Ec,FN]
   cases gd with
   |none=>simp only[KD];rfl
   |some g=>obtain⟨j,want⟩:=g;simp only[KD,Fh];rfl
def OE(l:List Oper)(K:List Oper→Prop)(_t:Tg K:=()):Prop:=K l
theorem S4(l:List Oper)(K:List Oper→Prop):OE l K=K l:=rfl
section
variable (c:CxA) (k:List It) (ν:Nu) (n:Nat) (ρ:Bc) (A:AH)
theorem gA[dd:DefD]:Bt c [] ν n ρ A=b8 c ρ A:=by rw[Bt]
theorem hU[dd:DefD](id:Nat):Bt c (.blk id::k) ν n ρ A=Bt c k ν n ρ A:=by rw[Bt]
theorem so[dd:DefD](b:Code):Bt c (.sc b::k) ν n ρ A=Bt c k ν n ρ A:=by rw[Bt]
theorem tc[dd:DefD](b:Code):Bt c (.lp b::k) ν n ρ A=EW (canon c.live ρ) fun ρ=> @At dd c b k ρ A ():=by rw[Bt];rfl
theorem Xa[dd:DefD]:Bt c (.code .skip::k) ν n ρ A=Bt c k ν n ρ A:=by rw[Bt]
theorem UK[dd:DefD](l:Nat):Bt c (.code (.label l)::k) ν n ρ A=Bt c k ν n ρ A:=by rw[Bt]
theorem jJ[dd:DefD]:Bt c (.code .ret::k) ν n ρ A=b8 c ρ A:=by rw[Bt]
theorem ju[dd:DefD](x y:Code):Bt c (.code (.seq x y)::k) ν n ρ A=Bt c (.code x:: .code y::k) ν n ρ A:=by rw[Bt]
theorem ZK[dd:DefD](x:Operand)(t e:Code):Bt c (.code (.cond x t e)::k) ν n ρ A=A9 (BM ρ x) fun v=>Sx v (Bt c (.code t::k) ν n ρ A) (Bt c (.code e::k) ν n ρ A):=by rw[Bt]
theorem T3[dd:DefD](id:Nat)(b:Code):Bt c (.code (.block id b)::k) ν n ρ A=Bt c (.code b:: .blk id::k) ν n ρ A:=by rw[Bt]
theorem TE[dd:DefD](b:Code):Bt c (.code (.scope b)::k) ν n ρ A=Bt c (.code b:: .sc b::k) ν n ρ A:=by rw[Bt]
theorem Yj[dd:DefD](b:Code):Bt c (.code (.loop b)::k) ν n ρ A=EW (canon c.live ρ) fun ρ=> @At dd c b k ρ A ():=by rw[Bt];rfl
theorem Qc[dd:DefD](id:Nat)(ops:List Oper):Bt c (.code (.region id ops.toArray false)::k) ν n ρ A=EW (canon c.live ρ) fun ρ=>OE (Bj ops) fun ops=>Bl c.P c.imp c.n ops 400 none ops ν n ρ A fun ν n ρ' A=>Bt c k ν n ρ' A:=by
 rw[Bt];exact(PL ..).symm
noncomputable def dRg[dd:DefD](p:Option Pln)(id:Nat)(ops:List Oper):Prop:=match p with
 |some (.q sp)=>EW (canon c.live ρ) fun ρ=>OE (Bj ops) fun ops=>CL c.P c.n sp ops A 400 none ops ρ fun ρ'=>Bt c k ν n ρ' A
 |some (.p pl)=>EW (canon c.live ρ) fun ρ=>OE (Bj ops) fun ops=>Dw c.P c.imp c.n ops pl A ν n ρ A fun ν n ρ' A=>Bt c k ν n ρ' A
 |none=>EW (canon c.live ρ) fun ρ=> @C3 dd c (.code (.region id ops.toArray true)::k) ρ A ()
@[congr] theorem dRg_congr [dd:DefD] {c:CxA} {k:List It} {ν:Nu} {n:Nat} {ρ:Bc} {A:AH} {p p':Option Pln} {id:Nat} {ops:List Oper} (e:p=p'):dRg c k ν n ρ A p id ops=dRg c k ν n ρ A p' id ops:=by rw[e]
theorem OZ[dd:DefD](id:Nat)(ops:List Oper):Bt c (.code (.region id ops.toArray true)::k) ν n ρ A=dRg c k ν n ρ A (HU c.plans id) id ops:=by
 rw[Bt];unfold dRg EW OE;cases HU c.plans id with
 |none=>rfl
 |some p=>cases p with
  |q sp=>exact(Vf ..).symm
  |p pl=>exact(MU ..).symm
theorem qd[dd:DefD](id:Nat)(sp:Bool)(ops:List Oper):dRg c k ν n ρ A (some (.q sp)) id ops=EW (canon c.live ρ) fun ρ=>OE (Bj ops) fun ops=>CL c.P c.n sp ops A 400 none ops ρ fun ρ'=>Bt c k ν n ρ' A:=rfl
theorem oz[dd:DefD](id:Nat)(pl:List (Nat×Nat))(ops:List Oper):dRg c k ν n ρ A (some (.p pl)) id ops=EW (canon c.live ρ) fun ρ=>OE (Bj ops) fun ops=>Dw c.P c.imp c.n ops pl A ν n ρ A fun ν n ρ' A=>Bt c k ν n ρ' A:=rfl
theorem tJ[dd:DefD](id:Nat)(ops:List Oper):dRg c k ν n ρ A none id ops=EW (canon c.live ρ) fun ρ=> @C3 dd c (.code (.region id ops.toArray true)::k) ρ A ():=rfl
theorem Om(j:Nat):HU [] j=none:=rfl
theorem MH(i j:Nat)(p:Pln)(l:List (Nat×Pln)):HU ((i,p)::l) j=if i=j then some p else HU l j:=rfl
theorem aW[dd:DefD](id:Nat):Bt c (.code (.exit id)::k) ν n ρ A=bP c (DG id k) ν n ρ A:=by
 rw[Bt];split<;>rename_i h<;>rw[h]<;>rfl
theorem Wa[dd:DefD]:bP c (some k) ν n ρ A=Bt c k ν n ρ A:=rfl
@[congr] theorem dXA_congr [dd:DefD] {c:CxA} {k k':Option (List It)} {ν:Nu} {n:Nat} {ρ:Bc} {A:AH} (e:k=k'):bP c k ν n ρ A=bP c k' ν n ρ A:=by rw[e]
theorem Zh:b8 c ρ A=A9 (HX c.P ρ A c.fn.results.toList) fun vs=>c.R (one vs) A:=rfl
end
section
variable (P:Program) (imp:Imp) (nt:Nat) (all:List Oper) (m:Nat) (ν:Nu) (n:Nat) (ρ:Bc) (A:AH) (K:Nu→Nat→Bc→AH→Prop)
variable (dst:Option Nat) (ty:TypeId) (pos:String) (aft:Array Edge) (gd:Option (Nat×Bool)) (rest:List Oper)
theorem fU(cur:Option (Nat×Bool)):Bl P imp nt all (m+1) cur [] ν n ρ A K=K ν n ρ A:=rfl
theorem Tp(op:Op):Bl P imp nt all (m+1) none (⟨dst,op,ty,pos,aft,none⟩::rest) ν n ρ A K=
  CB P imp nt ⟨dst,op,ty,pos,aft,none⟩ ν n ρ A fun ν n ρ' A=>Bl P imp nt all m none rest ν n ρ' A K:=by simp[Bl]
theorem pE(op:Op)(g:Nat×Bool):Bl P imp nt all (m+1) (some g) (⟨dst,op,ty,pos,aft,some g⟩::rest) ν n ρ A K=
  CB P imp nt ⟨dst,op,ty,pos,aft,some g⟩ ν n ρ A fun ν n ρ' A=>Bl P imp nt all m (some g) rest ν n ρ' A K:=by simp[Bl]
noncomputable def nb(cur:Option (Nat×Bool))(j:Nat)(want:Bool)(g after:List Oper)(s:Nat)(b:Bool)(pure:Bool):Prop:=
 match pure,after with
 |true,p::after'=>match DD want s p.op with
  |some y=>Bl P imp nt all m (some (j,want)) g ν n ρ A fun ν n ρ' A=>A9 (BM ρ' y) fun c=>Dg nt p.dst want b c (D5 g ρ) fun ρ''=>Bl P imp nt all m cur after' ν n ρ'' A K
  |none=>False
 |_,after=>Lo (b==want) (Bl P imp nt all m (some (j,want)) g ν n ((s,some (.bool want))::ρ) A fun ν n ρ' A=>Bl P imp nt all m cur after ν n ρ' A K) (Bl P imp nt all m cur after ν n (D5 g ((s,some (.bool (!want)))::ρ)) A K)
@[congr] theorem gpA_congr {P:Program} {imp:Imp} {nt:Nat} {all:List Oper} {m:Nat} {ν:Nu} {n:Nat} {ρ:Bc} {A:AH} {K:Nu→Nat→Bc→AH→Prop} {cur:Option (Nat×Bool)} {j:Nat} {want:Bool} {g g' after after':List Oper} {s:Nat} {b pu pu':Bool} (h1:g=g') (h2:after=after') (h3:pu=pu'):
  nb P imp nt all m ν n ρ A K cur j want g after s b pu=nb P imp nt all m ν n ρ A K cur j want g' after' s b pu':=by rw[h1,h2,h3]
noncomputable def gvA(cur:Option (Nat×Bool))(j:Nat)(want:Bool)(g after:List Oper)(s:Nat)(v:Value):Prop:=
 match v with| .bool b=>Br (C7 all s j want [] g=true) (nb P imp nt all m ν n ρ A K cur j want g after s b (FF g))|_=>False
theorem Tt(cur:Option (Nat×Bool))(j:Nat)(want:Bool)(g after:List Oper)(s:Nat)(b:Bool):
  gvA P imp nt all m ν n ρ A K cur j want g after s (.bool b)=Br (C7 all s j want [] g=true) (nb P imp nt all m ν n ρ A K cur j want g after s b (FF g)):=rfl
theorem Ww(op:Op)(cur:Option (Nat×Bool))(j:Nat)(want:Bool)(hne: ¬some (j,want)=cur):Bl P imp nt all (m+1) cur (⟨dst,op,ty,pos,aft,some (j,want)⟩::rest) ν n ρ A K=
  A9 (C2 all j) fun s=>A9 (get ρ s) fun v=>gvA P imp nt all m ν n ρ A K cur j want
   (⟨dst,op,ty,pos,aft,some (j,want)⟩::Bv cur rest) (Cb cur rest) s v:=by
 have h1:Bv cur (⟨dst,op,ty,pos,aft,some (j,want)⟩::rest)=⟨dst,op,ty,pos,aft,some (j,want)⟩::Bv cur rest:=by simp[Bv,hne]
 have h2:Cb cur (⟨dst,op,ty,pos,aft,some (j,want)⟩::rest)=Cb cur rest:=by simp[Cb,hne]
 rw[Bl,if_neg hne,h1,h2]
 congr 1
theorem Yz(op:Op)(j:Nat)(want:Bool):Bl P imp nt all (m+1) none (⟨dst,op,ty,pos,aft,some (j,want)⟩::rest) ν n ρ A K=
  A9 (C2 all j) fun s=>A9 (get ρ s) fun v=>gvA P imp nt all m ν n ρ A K none j want
   (⟨dst,op,ty,pos,aft,some (j,want)⟩::Bv none rest) (Cb none rest) s v:=Ww P imp nt all m ν n ρ A K dst ty pos aft rest op none j want (by simp)
theorem fq(cur:Option (Nat×Bool))(j:Nat)(want:Bool)(g after:List Oper)(s:Nat)(b:Bool):nb P imp nt all m ν n ρ A K cur j want g after s b false=
  Lo (b==want) (EW ((s,some (.bool want))::ρ) fun ρ=>Bl P imp nt all m (some (j,want)) g ν n ρ A fun ν n ρ' A=>EW ρ' fun ρ'=>Bl P imp nt all m cur after ν n ρ' A K) (EW (D5 g ((s,some (.bool (!want)))::ρ)) fun ρ=>Bl P imp nt all m cur after ν n ρ A K):=rfl
theorem eu(cur:Option (Nat×Bool))(j:Nat)(g after:List Oper)(s:Nat)(b:Bool)(y:Operand):nb P imp nt all m ν n ρ A K cur j false g (⟨dst,.pick (.tmp s) (.const (.bool true)) y,ty,pos,aft,gd⟩::after) s b true=
  EW (D5 g ρ) fun ρ2=>Bl P imp nt all m (some (j,false)) g ν n ρ A fun ν n ρ' A=>A9 (BM ρ' y) fun c=>Dg nt dst false b c ρ2 fun ρ''=>Bl P imp nt all m cur after ν n ρ'' A K:=by simp[nb,DD,EW]
theorem X5(cur:Option (Nat×Bool))(j:Nat)(g after:List Oper)(s:Nat)(b:Bool)(y:Operand):nb P imp nt all m ν n ρ A K cur j true g (⟨dst,.pick (.tmp s) y (.const (.bool false)),ty,pos,aft,gd⟩::after) s b true=
  EW (D5 g ρ) fun ρ2=>Bl P imp nt all m (some (j,true)) g ν n ρ A fun ν n ρ' A=>A9 (BM ρ' y) fun c=>Dg nt dst true b c ρ2 fun ρ''=>Bl P imp nt all m cur after ν n ρ'' A K:=by simp[nb,DD,EW]
theorem Yt(x:Operand):CB P imp nt ⟨dst,.move x,ty,pos,aft,gd⟩ ν n ρ A K=Bb P nt ⟨dst,.move x,ty,pos,aft,gd⟩ ρ #[] (fun ρ' _=>K ν n ρ' A) fun _ _=>False:=B9 rfl
theorem Qh(x:Operand):CB P imp nt ⟨dst,.assign x,ty,pos,aft,gd⟩ ν n ρ A K=Bb P nt ⟨dst,.assign x,ty,pos,aft,gd⟩ ρ #[] (fun ρ' _=>K ν n ρ' A) fun _ _=>False:=B9 rfl
theorem aY(x a b:Operand):CB P imp nt ⟨dst,.pick x a b,ty,pos,aft,gd⟩ ν n ρ A K=Bb P nt ⟨dst,.pick x a b,ty,pos,aft,gd⟩ ρ #[] (fun ρ' _=>K ν n ρ' A) fun _ _=>False:=B9 rfl
theorem MW(x:Operand):CB P imp nt ⟨dst,.nilCheck x,ty,pos,aft,gd⟩ ν n ρ A K=Bb P nt ⟨dst,.nilCheck x,ty,pos,aft,gd⟩ ρ #[] (fun ρ' _=>K ν n ρ' A) fun _ _=>False:=B9 rfl
theorem Td(op:BinOp)(t:TypeId)(x y:Operand)(t2:TypeId):CB P imp nt ⟨dst,.binOp op t x y t2,ty,pos,aft,gd⟩ ν n ρ A K=Bb P nt ⟨dst,.binOp op t x y t2,ty,pos,aft,gd⟩ ρ #[] (fun ρ' _=>K ν n ρ' A) fun _ _=>False:=B9 rfl
theorem aA(op:UnOp)(t:TypeId)(x:Operand):CB P imp nt ⟨dst,.unOp op t x,ty,pos,aft,gd⟩ ν n ρ A K=Bb P nt ⟨dst,.unOp op t x,ty,pos,aft,gd⟩ ρ #[] (fun ρ' _=>K ν n ρ' A) fun _ _=>False:=B9 rfl
theorem Gw(t:TypeId)(x:Operand):CB P imp nt ⟨dst,.makeInterface t x,ty,pos,aft,gd⟩ ν n ρ A K=Bb P nt ⟨dst,.makeInterface t x,ty,pos,aft,gd⟩ ρ #[] (fun ρ' _=>K ν n ρ' A) fun _ _=>False:=B9 rfl
theorem Kd(t:TypeId)(x:Operand)(i:Nat):CB P imp nt ⟨dst,.fieldAddr t x i,ty,pos,aft,gd⟩ ν n ρ A K=Bb P nt ⟨dst,.fieldAddr t x i,ty,pos,aft,gd⟩ ρ #[] (fun ρ' _=>K ν n ρ' A) fun _ _=>False:=B9 rfl
theorem TP(t:TypeId)(x:Operand)(i:Nat):CB P imp nt ⟨dst,.field t x i,ty,pos,aft,gd⟩ ν n ρ A K=Bb P nt ⟨dst,.field t x i,ty,pos,aft,gd⟩ ρ #[] (fun ρ' _=>K ν n ρ' A) fun _ _=>False:=B9 rfl
theorem Kl(t:TypeId)(x i:Operand):CB P imp nt ⟨dst,.indexAddr t x i,ty,pos,aft,gd⟩ ν n ρ A K=Bb P nt ⟨dst,.indexAddr t x i,ty,pos,aft,gd⟩ ρ #[] (fun ρ' _=>K ν n ρ' A) fun _ _=>False:=B9 rfl
theorem Vz(t:TypeId)(x i:Operand):CB P imp nt ⟨dst,.index t x i,ty,pos,aft,gd⟩ ν n ρ A K=Bb P nt ⟨dst,.index t x i,ty,pos,aft,gd⟩ ρ #[] (fun ρ' _=>K ν n ρ' A) fun _ _=>False:=B9 rfl
theorem Nb(x:Operand)(i:Nat):CB P imp nt ⟨dst,.extract x i,ty,pos,aft,gd⟩ ν n ρ A K=Bb P nt ⟨dst,.extract x i,ty,pos,aft,gd⟩ ρ #[] (fun ρ' _=>K ν n ρ' A) fun _ _=>False:=B9 rfl
theorem U1(t:TypeId)(ps:List (Nat×Operand)):CB P imp nt ⟨dst,.build t ps.toArray,ty,pos,aft,gd⟩ ν n ρ A K=Bb P nt ⟨dst,.build t ps.toArray,ty,pos,aft,gd⟩ ρ #[] (fun ρ' _=>K ν n ρ' A) fun _ _=>False:=B9 rfl
theorem L0(fn:Fn)(fs cs:List Operand):CB P imp nt ⟨dst,.makeFunc fn fs.toArray cs.toArray,ty,pos,aft,gd⟩ ν n ρ A K=Bb P nt ⟨dst,.makeFunc fn fs.toArray cs.toArray,ty,pos,aft,gd⟩ ρ #[] (fun ρ' _=>K ν n ρ' A) fun _ _=>False:=B9 rfl
theorem WY(t:TypeId)(x:Operand)(lo hi:Option Operand):CB P imp nt ⟨dst,.slice t x lo hi none,ty,pos,aft,gd⟩ ν n ρ A K=Bb P nt ⟨dst,.slice t x lo hi none,ty,pos,aft,gd⟩ ρ #[] (fun ρ' _=>K ν n ρ' A) fun _ _=>False:=B9 rfl
theorem Qf(t:TypeId)(x m:Operand)(lo hi:Option Operand):CB P imp nt ⟨dst,.slice t x lo hi (some m),ty,pos,aft,gd⟩ ν n ρ A K=A9 (BM ρ x) fun v=>A9 (Fj ρ lo) fun l=>A9 (Fj ρ hi) fun r=>A9 (BM ρ m) fun mv=>PZ P t v l r mv fun u=>BL nt dst u ρ fun ρ'=>K ν n ρ' A:=B9 rfl
theorem aV{P:Program}{t:TypeId}(p:Option Addr)(n m:Nat)(lo hi:Option Value)(mx:Value)(K:Value→Prop):PZ P t (.slice p n m) lo hi mx K=A9 (PR P t) fun e=>A9 (DL lo 0) fun l=>A9 (DL hi n) fun r=>A9 (DL (some mx) m) fun c=>Br (hi≠none∧0≤l∧l≤r∧r≤c∧c≤m) (K (.slice (if c=l then p else p.map (·.add (l.toNat*e.2.1))) (r.toNat - l.toNat) (c.toNat - l.toNat))):=rfl
theorem Z3(f:Operand)(xs:List Operand)(ts:Array TypeId):CB P imp nt ⟨dst,.call ⟨.value f,xs.toArray,ts⟩,ty,pos,aft,gd⟩ ν n ρ A K=A9 (BM ρ f) fun fv=>A9 (G8 ρ xs) fun vs=>Q6 P imp fv vs A ν n fun ν n u A=>BL nt dst u ρ fun ρ'=>K ν n ρ' A:=rfl
theorem Xj(t:TypeId)(x:Operand):CB P imp nt ⟨dst,.load t x,ty,pos,aft,gd⟩ ν n ρ A K=A9 (BM ρ x) fun p=>A9 (D7 p) fun a=>A9 (F1 P A t a) fun u=>BL nt dst u ρ fun ρ'=>K ν n ρ' A:=rfl
theorem T7(t:TypeId)(x y:Operand):CB P imp nt ⟨dst,.store t x y,ty,pos,aft,gd⟩ ν n ρ A K=A9 (BM ρ x) fun p=>A9 (D7 p) fun a=>A9 (BM ρ y) fun v=>A9 (DP P t) fun s=>Br (v.cells.size=s.2) (A9 (wrA A a v.cells.toList) fun A'=>BL nt dst undef ρ fun ρ'=>K ν n ρ' A'):=rfl
theorem Sz(l:List Nat)(X:List PanicEntry→AH→Prop)(x:Operand):CB P ⟨l,some X⟩ nt ⟨dst,.panic x,ty,pos,aft,gd⟩ ν n ρ A K=A9 (BM ρ x) fun v=>panY X v A:=by simp only[CB];congr;funext v;cases v<;>rfl
theorem WB(e:TypeId):CB P imp nt ⟨dst,.alloc e,ty,pos,aft,gd⟩ ν n ρ A K=A9 (DU P e) fun z=>BL nt dst (.pointer (some ⟨ν n,0,none⟩)) ρ fun ρ'=>K ν (n+1) ρ' ((ν n,.cells z.cells e)::A):=rfl
theorem dN(e:TypeId)(x:Operand):CB P imp nt ⟨dst,.box e x,ty,pos,aft,gd⟩ ν n ρ A K=A9 (BM ρ x) fun v=>BL nt dst (.pointer (some ⟨ν n,0,none⟩)) ρ fun ρ'=>K ν (n+1) ρ' ((ν n,.cells v.cells e)::A):=rfl
theorem Ji(t:TypeId)(l:Nat)(ps:List (Nat×Operand)):CB P imp nt ⟨dst,.buildSlice t l ps.toArray,ty,pos,aft,gd⟩ ν n ρ A K=A9 (Ae ρ ps) fun vs=>A9 (C4 P t l vs) fun r=>BL nt dst (.slice (some ⟨ν n,0,none⟩) l l) ρ fun ρ'=>K ν (n+1) ρ' ((ν n,.cells r.2 r.1)::A):=rfl
theorem NJ(t:TypeId):CB P imp nt ⟨dst,.makeMap t none,ty,pos,aft,gd⟩ ν n ρ A K=BL nt dst (.map (some (ν n))) ρ fun ρ'=>K ν (n+1) ρ' ((ν n,.map #[] 0)::A):=rfl
theorem NR(s d:TypeId)(x:Operand):CB P imp nt ⟨dst,.convert s d x,ty,pos,aft,gd⟩ ν n ρ A K=A9 (BM ρ x) fun v=>J2 P s d (P.underlying s) (P.underlying d) v A ν n fun ν n u A=>BL nt dst u ρ fun ρ'=>K ν n ρ' A:=rfl
theorem Kk(t:TypeId)(l cc:Operand):CB P imp nt ⟨dst,.makeSlice t l cc,ty,pos,aft,gd⟩ ν n ρ A K=A9 (BM ρ l) fun lv=>A9 (BM ρ cc) fun cv=>FP P (Instr.makeSlice t lv cv) A ν n fun ν n u A=>BL nt dst u ρ fun ρ'=>K ν n ρ' A:=rfl
theorem RR(t:TypeId)(x i:Operand)(ok:Bool):CB P imp nt ⟨dst,.lookup t x i ok,ty,pos,aft,gd⟩ ν n ρ A K=A9 (BM ρ x) fun m=>A9 (BM ρ i) fun k=>K8 P (Instr.lookup t m k ok) A ν n fun ν n u A=>BL nt dst u ρ fun ρ'=>K ν n ρ' A:=rfl
theorem Ks(t:TypeId)(x i y:Operand):CB P imp nt ⟨dst,.mapUpdate t x i y,ty,pos,aft,gd⟩ ν n ρ A K=A9 (BM ρ x) fun m=>A9 (BM ρ i) fun k=>A9 (BM ρ y) fun v=>FP P (do Instr.mapUpdate t m k v;Pure.pure undef) A ν n fun ν n u A=>BL nt dst u ρ fun ρ'=>K ν n ρ' A:=rfl
theorem QM(t:TypeId)(x i y:Operand):CB P imp nt ⟨dst,.insert t x i y,ty,pos,aft,gd⟩ ν n ρ A K=A9 (BM ρ x) fun m=>A9 (BM ρ i) fun k=>A9 (BM ρ y) fun v=>FP P (do Instr.mapUpdate t m k v;Pure.pure undef) A ν n fun ν n u A=>BL nt dst u ρ fun ρ'=>K ν n ρ' A:=rfl
theorem V2(t:TypeId)(x:Operand):CB P imp nt ⟨dst,.range t x,ty,pos,aft,gd⟩ ν n ρ A K=A9 (BM ρ x) fun v=>Lh P t v A ν n fun ν n u A=>BL nt dst u ρ fun ρ'=>K ν n ρ' A:=rfl
theorem ZS(x:Operand)(s:Bool):CB P imp nt ⟨dst,.next x s,ty,pos,aft,gd⟩ ν n ρ A K=A9 (BM ρ x) fun v=>Qj P v s ty A ν n fun ν n u A=>BL nt dst u ρ fun ρ'=>K ν n ρ' A:=rfl
theorem Jr(x:Operand)(t a:TypeId)(ok:Bool):CB P imp nt ⟨dst,.typeAssert x t a ok,ty,pos,aft,gd⟩ ν n ρ A K=A9 (BM ρ x) fun v=>K8 P (Instr.typeAssert v t a ok) A ν n fun ν n u A=>BL nt dst u ρ fun ρ'=>K ν n ρ' A:=rfl
theorem gG(x:Operand)(t:TypeId):CB P imp nt ⟨dst,.call ⟨.builtin .len,#[x],#[t]⟩,ty,pos,aft,gd⟩ ν n ρ A K=A9 (BM ρ x) fun v=>JX P t v A fun u=>BL nt dst u ρ fun ρ'=>K ν n ρ' A:=by
 unfold CB
 simp only[G8]
 cases BM ρ x<;>simp[A9,Em]
theorem eE(x y:Operand)(ts:Array TypeId):CB P imp nt ⟨dst,.call ⟨.builtin .min,#[x,y],ts⟩,ty,pos,aft,gd⟩ ν n ρ A K=A9 (BM ρ x) fun v=>A9 (BM ρ y) fun u=>mmW v u fun k a b=>BL nt dst (.int k (if b<a then b else a)) ρ fun ρ'=>K ν n ρ' A:=by
 unfold CB
 simp only[G8]
 cases BM ρ x<;>cases BM ρ y<;>simp[A9,Em]
 rename_i v u
 cases v<;>cases u<;>simp[mmW]
theorem iA(x y:Operand)(ts:Array TypeId):CB P imp nt ⟨dst,.call ⟨.builtin .max,#[x,y],ts⟩,ty,pos,aft,gd⟩ ν n ρ A K=A9 (BM ρ x) fun v=>A9 (BM ρ y) fun u=>mmW v u fun k a b=>BL nt dst (.int k (if a<b then b else a)) ρ fun ρ'=>K ν n ρ' A:=by
 unfold CB
 simp only[G8]
 cases BM ρ x<;>cases BM ρ y<;>simp[A9,Em]
 rename_i v u
 cases v<;>cases u<;>simp[mmW]
theorem RM(xs:List Operand)(ts:Array TypeId):CB P imp nt ⟨dst,.call ⟨.builtin .append,xs.toArray,ts⟩,ty,pos,aft,gd⟩ ν n ρ A K=A9 (G8 ρ xs) fun vs=>FP P (Builtin.append_ ts ty vs.toArray) A ν n fun ν n u A=>BL nt dst u ρ fun ρ'=>K ν n ρ' A:=rfl
theorem Yo(xs:List Operand)(ts:Array TypeId):CB P imp nt ⟨dst,.call ⟨.builtin .copy,xs.toArray,ts⟩,ty,pos,aft,gd⟩ ν n ρ A K=A9 (G8 ρ xs) fun vs=>FP P (Builtin.copy_ ts ty vs.toArray) A ν n fun ν n u A=>BL nt dst u ρ fun ρ'=>K ν n ρ' A:=rfl
theorem Qu(xs:List Operand)(ts:Array TypeId):CB P imp nt ⟨dst,.call ⟨.builtin .delete,xs.toArray,ts⟩,ty,pos,aft,gd⟩ ν n ρ A K=A9 (G8 ρ xs) fun vs=>FP P (Builtin.delete_ ts ty vs.toArray) A ν n fun ν n u A=>BL nt dst u ρ fun ρ'=>K ν n ρ' A:=rfl
theorem Vg(xs:List Operand)(ts:Array TypeId):CB P imp nt ⟨dst,.call ⟨.builtin .clear,xs.toArray,ts⟩,ty,pos,aft,gd⟩ ν n ρ A K=A9 (G8 ρ xs) fun vs=>FP P (Builtin.clear_ ts ty vs.toArray) A ν n fun ν n u A=>BL nt dst u ρ fun ρ'=>K ν n ρ' A:=rfl
theorem fV(xs:List Operand)(ts:Array TypeId):CB P imp nt ⟨dst,.call ⟨.builtin .cap,xs.toArray,ts⟩,ty,pos,aft,gd⟩ ν n ρ A K=A9 (G8 ρ xs) fun vs=>K8 P (Builtin.cap_ ts ty vs.toArray) A ν n fun ν n u A=>BL nt dst u ρ fun ρ'=>K ν n ρ' A:=rfl
end
section
variable (P:Program) (imp:Imp) (ν:Nu) (n:Nat) (A:AH) (K:Nu→Nat→Value→AH→Prop) (t:TypeId)
theorem NG(g:FuncId)(fs vs cs:List Value):Q6 P imp (.func (.func g) fs.toArray cs.toArray) vs A ν n K=XE P imp g (fs++vs++cs).toArray A ν n K:=by
 unfold Q6;simp
noncomputable def TR(X:Xp)(g:FuncId)(args:Array Value)(b:Prop)(K:Nu→Nat→Value→AH→Prop)(_t:Tg (X,K):=()):Prop:=(b→KW X P g args A fun v A'=> ∀ν',Dx ν' A'→K ν' 0 v A')∧(¬b→A9 (Bi P g args A) fun v=>K ν n v A)
theorem ag(l:List Nat)(X:Xp)(g:FuncId)(args:Array Value):XE P ⟨l,X⟩ g args A ν n K=TR P ν n A X g args (g∈l) K:=by
 unfold XE TR
 by_cases h:g∈l<;>simp[h]
theorem PE(X:Xp)(g:FuncId)(args:Array Value):TR P ν n A X g args False K=A9 (Bi P g args A) fun v=>K ν n v A:=by simp[TR]
def rH(P:Program)(g:FuncId)(args:Array Value)(A:AH)(K:Nu→Nat→Value→AH→Prop)(_t:Tg K:=()):Prop:=Ak P g args A fun v A'=> ∀ν',Dx ν' A'→K ν' 0 v A'
theorem Rm(g:FuncId)(args:Array Value):TR P ν n A none g args True K=rH P g args A K:=by simp[TR,rH,KW]
def Nw(P:Program)(g:FuncId)(args:Array Value)(A:AH)(X:List PanicEntry→AH→Prop)(K:Nu→Nat→Value→AH→Prop)(_t:Tg (X,K):=()):Prop:=AZ P g args A X fun v A'=> ∀ν',Dx ν' A'→K ν' 0 v A'
theorem NA(X:List PanicEntry→AH→Prop)(g:FuncId)(args:Array Value):TR P ν n A (some X) g args True K=Nw P g args A X K:=by simp[TR,Nw,KW]
theorem Vw(x:ByteArray)(K:Value→Prop):JX P t (.string x) A K=cT (P.underlying t) x K:=rfl
theorem T5(p:Option Addr)(i j:Nat)(K:Value→Prop):JX P t (.slice p i j) A K=A9 (PR P t) fun _=>K (.int .i64 i):=rfl
theorem UN(r:Nat)(K:Value→Prop):JX P t (.map (some r)) A K=V8 (P.underlying t) (AA A r) K:=rfl
theorem Qm(K:Value→Prop):JX P t (.map none) A K=kk (P.underlying t) K:=by
 unfold JX Hz kk;rfl
@[congr] theorem cnvN_congr {P:Program} {s d:TypeId} {us us' ud ud':Option TypeDesc} {x:Value} {A:AH} {ν:Nu} {n:Nat} {K:Nu→Nat→Value→AH→Prop} (h1:us=us') (h2:ud=ud'):J2 P s d us ud x A ν n K=J2 P s d us' ud' x A ν n K:=by rw[h1,h2]
theorem K9(s d:TypeId)(k k':IntKind)(a:Int)(ds:TypeDesc):J2 P s d (some ds) (some (.int k)) (.int k' a) A ν n K=K ν n (.int k (k.wrap a)) A:=by cases ds<;>rfl
theorem JR(s d:TypeId)(k k':IntKind)(a:Int):J2 P s d (some (.int k)) (some .string) (.int k' a) A ν n K=K ν n (.string (Utf8.encode a)) A:=rfl
theorem KU(s d:TypeId)(x:ByteArray):J2 P s d (some .string) (some .string) (.string x) A ν n K=K ν n (.string x) A:=rfl
theorem HK(s d e:TypeId)(x:Value):J2 P s d (some .string) (some (.slice e)) x A ν n K=FP P (convert s d x) A ν n K:=rfl
theorem Fi(s d e:TypeId)(x:Value):J2 P s d (some (.slice e)) (some .string) x A ν n K=K8 P (convert s d x) A ν n K:=rfl
theorem bM(s:Sem Value):K8 P s A ν n K=A9 (F3 P s A) fun v=>K ν n v A:=rfl
theorem Nr(x:ByteArray):Lh P t (.string x) A ν n K=Br (P.underlying t=some .string) (K ν (n+1) (.pointer (some ⟨ν n,0,none⟩)) ((ν n,.stringIter x 0)::A)):=rfl
theorem P4(r:Nat):Qj P (.pointer (some ⟨r,0,none⟩)) true t A ν n K=Ob r (AA A r) A ν n K:=rfl
@[congr] theorem nextO_congr {r:Nat} {o o':Option Obj} {A:AH} {ν:Nu} {n:Nat} {K:Nu→Nat→Value→AH→Prop} (h:o=o'):Ob r o A ν n K=Ob r o' A ν n K:=by rw[h]
theorem Rl(r pos:Nat)(s:ByteArray):Ob r (some (.stringIter s pos)) A ν n K=Lo (decide (pos<s.size)) (K ν n (.tuple #[.bool true,.int .i64 pos,.int .i32 (Utf8.decode s pos).1]) (Fc A r (.stringIter s (pos+(Utf8.decode s pos).2)))) (K ν n (.tuple #[.bool false]) A):=rfl
end
section
variable (P:Program) (A:AH) (b x o n:Nat) (u:Obj)
theorem UM:AA [] x=none:=rfl
theorem Qt:AA ((b,u)::A) x=if b=x then some u else AA A x:=rfl
theorem VZ:Fc [] x u=[]:=rfl
theorem Q1(u':Obj):Fc ((b,u)::A) x u'=if b=x then(b,u')::A else(b,u)::Fc A x u':=rfl
def rdB(s:Option (Bool×Nat))(ob:Option Obj)(o:Nat):Option Value:=match s with
 |some (true,n)=>Hs (EZ ob o n)
 |some (false,_)=>Oi ob o
 |none=>none
theorem Ra(t:TypeId):F1 P A t ⟨b,o,none⟩=rdB (DP P t) (AA A b) o:=by
 unfold F1 rdA rdB
 cases DP P t with
 |none=>rfl
 |some s=>obtain⟨q,n⟩:=s;cases q<;>rfl
theorem Yq(ob:Option Obj):rdB (some (true,n)) ob o=Hs (EZ ob o n):=rfl
theorem aL(ob:Option Obj):rdB (some (false,n)) ob o=Oi ob o:=rfl
theorem ez(vs:List Value):wrA A ⟨b,o,none⟩ vs=wrO A b (AA A b) o vs:=by unfold wrA;simp
theorem Pe(c:Array Value)(e:TypeId)(vs:List Value):wrO A b (some (.cells c e (0,0))) o vs=if o+vs.length≤c.size∧Ek vs=true then some (Fc A b (.cells (DE c o vs) e))else none:=by simp[wrO]
theorem QR(ρ:Bc):HX P ρ A []=some []:=rfl
theorem OD(ρ:Bc)(r:ResultVar)(l:List ResultVar):HX P ρ A (r::l)=Em (N5 P ρ A r) (HX P ρ A l):=rfl
theorem RE(ρ:Bc)(t:Nat):N5 P ρ A (.tmp t)=get ρ t:=rfl
def oRdA(P:Program)(A:AH)(ty:TypeId)(o:Option Addr):Option Value:=match o with|some a=>F1 P A ty a|none=>none
theorem O7(ρ:Bc)(s:Nat)(t:TypeId):N5 P ρ A (.cell s t)=oRdA P A t (Qw (get ρ s)):=rfl
theorem Qz(t:TypeId)(a:Addr):oRdA P A t (some a)=F1 P A t a:=rfl
end
theorem aK(k k':IntKind)(a b:Int)(K:IntKind→Int→Int→Prop):mmW (.int k a) (.int k' b) K=K k a b:=rfl
theorem Ur(x y:TypeId)(K:Value→Prop):kk (some (.map x y)) K=K (.int .i64 0):=rfl
theorem Dx.nu{ν:Nu}{A:AH}(f:Dx ν A)(i j:Nat):(ν i=ν j)=(i=j):=propext ⟨f.1 i j,fun e=>by rw[e]⟩
theorem Dx.ne{ν:Nu}{A:AH}(f:Dx ν A){b:Nat}(h:AA A b≠none)(i:Nat):((b=ν i)=False)∧((ν i=b)=False):=
 ⟨eq_false fun e=>h (by rw[e];exact f.2 i),eq_false fun e=>h (by rw[←e];exact f.2 i)⟩
theorem Ta(A:AH):SubA [] A=True:=eq_true (SubA.nil A)
theorem TU(A:AH):PM [] A=True:=rfl
theorem Q4(b:Nat)(o:Obj)(A B:AH):PM ((b,o)::A) B=(AA B b=some o∧PM A B):=rfl
theorem Tu: ∀{A:AH} {b:Nat},b∈A.map (fun p=>p.1)→AA A b≠none
 | (x,o)::A,b,h=>by
  simp only[AA]
  split
  ·simp
  ·rename_i hne
   rcases List.mem_cons.1 h with rfl|h
   ·exact absurd rfl hne
   ·exact Tu h
theorem Dx.mem{ν:Nu}{A:AH}(f:Dx ν A){b:Nat}(h:b∈A.map (fun p=>p.1))(i:Nat):((b=ν i)=False)∧((ν i=b)=False):=f.ne (Tu h) i
theorem B5(A B:AH)(b:Nat):AA (A++B) b=match AA A b with|some o=>some o|none=>AA B b:=by
 induction A with
 |nil=>rfl
 |cons p A ih=>
  simp only[List.cons_append,AA]
  split
  ·rfl
  ·exact ih
theorem Ak.frame{P:Program}{g:FuncId}{args:Array Value}{A A0:AH}{K0 K:Value→AH→Prop}(hc:Ak P g args A0 K0)(hs:SubA A0 A)
  (hk: ∀v B,K0 v B→(∀b,AA A0 b≠none→AA B b≠none)∧((∀b,AA B b≠none→AA A0 b=none→AA A b=none)→K v (B++A))):Ak P g args A K:=fun h hA=>
 (hc h (hA.sub hs)).mono fun e h' ⟨v,B,h1,h2,h3,h4⟩=>by
  obtain⟨k1,k2⟩:=hk v B h4
  refine⟨v,B++A,h1,fun b o hl=> ?_,⟨h3.1,fun b hb hl=> ?_⟩,k2 fun b hb hn=> ?_⟩
  ·rw[B5]at hl
   split at hl
   ·rename_i u hu;cases hl;exact h2 b _ hu
   ·rename_i hu
    have h0:AA A0 b=none:=by
     cases ho:AA A0 b with
     |none=>rfl
     |some u=>exact absurd hu (k1 b (by rw[ho];simp))
    have hlt:=hA.lt hl
    rw[(h3.2 b hlt h0).1]
    exact hA b o hl
  ·have h0:=hs.none hl
   refine⟨(h3.2 b hb h0).1, ?_⟩
   rw[B5,(h3.2 b hb h0).2]
   exact hl
  ·cases ho:AA A b with
   |none=>rfl
   |some u=>exact absurd (h3.2 b (hA.lt ho) hn).2 hb
theorem At.weak[dd:DefD]{c:CxA}{body:Code}{k:List It}{ρ ρ':Bc}{A A':AH}(hl: @At dd c body k ρ A ())(hs:Bo ρ ρ')(ha:SubA A A'): @At dd c body k ρ' A' ():=fun A0 h0 h hA kp=>
 Bx.weak (hl A0 h0 h (hA.sub ha) (kp.sub ha)) hs
section
variable (P:Program) (n:Nat) (sp:Bool) (all:List Oper) (m:Nat) (ρ:Bc) (A:AH) (K:Bc→Prop)
variable (dst:Option Nat) (ty:TypeId) (pos:String) (aft:Array Edge) (gd:Option (Nat×Bool)) (rest:List Oper)
theorem iM(cur:Option (Nat×Bool)):CL P n sp all A (m+1) cur [] ρ K=K ρ:=rfl
theorem T0(op:Op):CL P n sp all A (m+1) none (⟨dst,op,ty,pos,aft,none⟩::rest) ρ K=
  CJ P n ⟨dst,op,ty,pos,aft,none⟩ ρ A (fun ρ'=>CL P n sp all A m none rest ρ' K):=by simp[CL]
theorem oy(op:Op)(g:Nat×Bool):CL P n sp all A (m+1) (some g) (⟨dst,op,ty,pos,aft,some g⟩::rest) ρ K=
  CJ P n ⟨dst,op,ty,pos,aft,some g⟩ ρ A (fun ρ'=>CL P n sp all A m (some g) rest ρ' K):=by simp[CL]
noncomputable def R4(cur:Option (Nat×Bool))(j:Nat)(want:Bool)(g after:List Oper)(s:Nat)(b:Bool)(pure:Bool):Prop:=
 match pure,after with
 |true,p::after'=>match DD want s p.op with
  |some y=>CL P n sp all A m (some (j,want)) g ρ (fun ρ'=>A9 (BM ρ' y) fun c=>Dg n p.dst want b c (D5 g ρ) fun ρ''=>CL P n sp all A m cur after' ρ'' K)
  |none=>False
 |_,after=>Lo (b==want) (CL P n sp all A m (some (j,want)) g ((s,some (.bool want))::ρ) (fun ρ'=>CL P n sp all A m cur after ρ' K)) (CL P n sp all A m cur after (D5 g ((s,some (.bool (!want)))::ρ)) K)
@[congr] theorem gpQA_congr {P:Program} {n:Nat} {sp:Bool} {all:List Oper} {m:Nat} {ρ:Bc} {A:AH} {K:Bc→Prop} {cur:Option (Nat×Bool)} {j:Nat} {want:Bool} {g g' after after':List Oper} {s:Nat} {b pu pu':Bool} (h1:g=g') (h2:after=after') (h3:pu=pu'):
  R4 P n sp all m ρ A K cur j want g after s b pu=R4 P n sp all m ρ A K cur j want g' after' s b pu':=by rw[h1,h2,h3]
noncomputable def gvQA(cur:Option (Nat×Bool))(j:Nat)(want:Bool)(g after:List Oper)(s:Nat)(v:Value):Prop:=
 match v with| .bool b=>Br (C7 all s j want [] g=true) (R4 P n sp all m ρ A K cur j want g after s b (GP sp g))|_=>False
theorem QL(cur:Option (Nat×Bool))(j:Nat)(want:Bool)(g after:List Oper)(s:Nat)(b:Bool):gvQA P n sp all m ρ A K cur j want g after s (.bool b)=
  Br (C7 all s j want [] g=true) (R4 P n sp all m ρ A K cur j want g after s b (GP sp g)):=rfl
theorem XH(op:Op)(cur:Option (Nat×Bool))(j:Nat)(want:Bool)(hne: ¬some (j,want)=cur):CL P n sp all A (m+1) cur (⟨dst,op,ty,pos,aft,some (j,want)⟩::rest) ρ K=
  A9 (C2 all j) fun s=>A9 (get ρ s) fun v=>gvQA P n sp all m ρ A K cur j want
   (⟨dst,op,ty,pos,aft,some (j,want)⟩::Bv cur rest) (Cb cur rest) s v:=by
 have h1:Bv cur (⟨dst,op,ty,pos,aft,some (j,want)⟩::rest)=⟨dst,op,ty,pos,aft,some (j,want)⟩::Bv cur rest:=by simp[Bv,hne]
 have h2:Cb cur (⟨dst,op,ty,pos,aft,some (j,want)⟩::rest)=Cb cur rest:=by simp[Cb,hne]
 rw[CL,if_neg hne,h1,h2]
 congr 1
theorem ZF(op:Op)(j:Nat)(want:Bool):CL P n sp all A (m+1) none (⟨dst,op,ty,pos,aft,some (j,want)⟩::rest) ρ K=
  A9 (C2 all j) fun s=>A9 (get ρ s) fun v=>gvQA P n sp all m ρ A K none j want
   (⟨dst,op,ty,pos,aft,some (j,want)⟩::Bv none rest) (Cb none rest) s v:=XH P n sp all m ρ A K dst ty pos aft rest op none j want (by simp)
theorem XY(cur:Option (Nat×Bool))(j:Nat)(want:Bool)(g after:List Oper)(s:Nat)(b:Bool):R4 P n sp all m ρ A K cur j want g after s b false=
  Lo (b==want) (CL P n sp all A m (some (j,want)) g ((s,some (.bool want))::ρ) (fun ρ'=>CL P n sp all A m cur after ρ' K)) (CL P n sp all A m cur after (D5 g ((s,some (.bool (!want)))::ρ)) K):=rfl
theorem Xy(cur:Option (Nat×Bool))(j:Nat)(g after:List Oper)(s:Nat)(b:Bool)(y:Operand):R4 P n sp all m ρ A K cur j false g (⟨dst,.pick (.tmp s) (.const (.bool true)) y,ty,pos,aft,gd⟩::after) s b true=
  CL P n sp all A m (some (j,false)) g ρ (fun ρ'=>A9 (BM ρ' y) fun c=>Dg n dst false b c (D5 g ρ) fun ρ''=>CL P n sp all A m cur after ρ'' K):=by simp[R4,DD]
theorem VB(cur:Option (Nat×Bool))(j:Nat)(g after:List Oper)(s:Nat)(b:Bool)(y:Operand):R4 P n sp all m ρ A K cur j true g (⟨dst,.pick (.tmp s) y (.const (.bool false)),ty,pos,aft,gd⟩::after) s b true=
  CL P n sp all A m (some (j,true)) g ρ (fun ρ'=>A9 (BM ρ' y) fun c=>Dg n dst true b c (D5 g ρ) fun ρ''=>CL P n sp all A m cur after ρ'' K):=by simp[R4,DD]
theorem Vk(x:Operand):CJ P n ⟨dst,.move x,ty,pos,aft,gd⟩ ρ A K=Bb P n ⟨dst,.move x,ty,pos,aft,gd⟩ ρ #[] (fun ρ' _=>K ρ') fun _ _=>False:=B9 rfl
theorem Ns(x:Operand):CJ P n ⟨dst,.assign x,ty,pos,aft,gd⟩ ρ A K=Bb P n ⟨dst,.assign x,ty,pos,aft,gd⟩ ρ #[] (fun ρ' _=>K ρ') fun _ _=>False:=B9 rfl
theorem UE(x a b:Operand):CJ P n ⟨dst,.pick x a b,ty,pos,aft,gd⟩ ρ A K=Bb P n ⟨dst,.pick x a b,ty,pos,aft,gd⟩ ρ #[] (fun ρ' _=>K ρ') fun _ _=>False:=B9 rfl
theorem Kc(x:Operand):CJ P n ⟨dst,.nilCheck x,ty,pos,aft,gd⟩ ρ A K=Bb P n ⟨dst,.nilCheck x,ty,pos,aft,gd⟩ ρ #[] (fun ρ' _=>K ρ') fun _ _=>False:=B9 rfl
theorem Q3(op:BinOp)(t:TypeId)(x y:Operand)(t2:TypeId):CJ P n ⟨dst,.binOp op t x y t2,ty,pos,aft,gd⟩ ρ A K=Bb P n ⟨dst,.binOp op t x y t2,ty,pos,aft,gd⟩ ρ #[] (fun ρ' _=>K ρ') fun _ _=>False:=B9 rfl
theorem Vt(op:UnOp)(t:TypeId)(x:Operand):CJ P n ⟨dst,.unOp op t x,ty,pos,aft,gd⟩ ρ A K=Bb P n ⟨dst,.unOp op t x,ty,pos,aft,gd⟩ ρ #[] (fun ρ' _=>K ρ') fun _ _=>False:=B9 rfl
theorem GU(t:TypeId)(x:Operand):CJ P n ⟨dst,.makeInterface t x,ty,pos,aft,gd⟩ ρ A K=Bb P n ⟨dst,.makeInterface t x,ty,pos,aft,gd⟩ ρ #[] (fun ρ' _=>K ρ') fun _ _=>False:=B9 rfl
theorem Jg(t:TypeId)(x:Operand)(i:Nat):CJ P n ⟨dst,.fieldAddr t x i,ty,pos,aft,gd⟩ ρ A K=Bb P n ⟨dst,.fieldAddr t x i,ty,pos,aft,gd⟩ ρ #[] (fun ρ' _=>K ρ') fun _ _=>False:=B9 rfl
theorem RZ(t:TypeId)(x:Operand)(i:Nat):CJ P n ⟨dst,.field t x i,ty,pos,aft,gd⟩ ρ A K=Bb P n ⟨dst,.field t x i,ty,pos,aft,gd⟩ ρ #[] (fun ρ' _=>K ρ') fun _ _=>False:=B9 rfl
theorem Js(t:TypeId)(x i:Operand):CJ P n ⟨dst,.indexAddr t x i,ty,pos,aft,gd⟩ ρ A K=Bb P n ⟨dst,.indexAddr t x i,ty,pos,aft,gd⟩ ρ #[] (fun ρ' _=>K ρ') fun _ _=>False:=B9 rfl
theorem QK(t:TypeId)(x i:Operand):CJ P n ⟨dst,.index t x i,ty,pos,aft,gd⟩ ρ A K=Bb P n ⟨dst,.index t x i,ty,pos,aft,gd⟩ ρ #[] (fun ρ' _=>K ρ') fun _ _=>False:=B9 rfl
theorem L6(x:Operand)(i:Nat):CJ P n ⟨dst,.extract x i,ty,pos,aft,gd⟩ ρ A K=Bb P n ⟨dst,.extract x i,ty,pos,aft,gd⟩ ρ #[] (fun ρ' _=>K ρ') fun _ _=>False:=B9 rfl
theorem QG(t:TypeId)(ps:List (Nat×Operand)):CJ P n ⟨dst,.build t ps.toArray,ty,pos,aft,gd⟩ ρ A K=Bb P n ⟨dst,.build t ps.toArray,ty,pos,aft,gd⟩ ρ #[] (fun ρ' _=>K ρ') fun _ _=>False:=B9 rfl
theorem Qd(t:TypeId)(x:Operand)(lo hi:Option Operand):CJ P n ⟨dst,.slice t x lo hi none,ty,pos,aft,gd⟩ ρ A K=Bb P n ⟨dst,.slice t x lo hi none,ty,pos,aft,gd⟩ ρ #[] (fun ρ' _=>K ρ') fun _ _=>False:=B9 rfl
theorem Oq(t:TypeId)(x m:Operand)(lo hi:Option Operand):CJ P n ⟨dst,.slice t x lo hi (some m),ty,pos,aft,gd⟩ ρ A K=A9 (BM ρ x) fun v=>A9 (Fj ρ lo) fun l=>A9 (Fj ρ hi) fun r=>A9 (BM ρ m) fun mv=>PZ P t v l r mv fun u=>BL n dst u ρ fun ρ'=>K ρ':=B9 rfl
theorem VT(f:Operand)(xs:List Operand)(ts:Array TypeId):CJ P n ⟨dst,.call ⟨.value f,xs.toArray,ts⟩,ty,pos,aft,gd⟩ ρ A K=A9 (BM ρ f) fun fv=>A9 (G8 ρ xs) fun vs=>SZ P fv vs A fun u=>BL n dst u ρ K:=rfl
theorem To(t:TypeId)(x:Operand):CJ P n ⟨dst,.load t x,ty,pos,aft,gd⟩ ρ A K=A9 (BM ρ x) fun p=>A9 (D7 p) fun a=>A9 (F1 P A t a) fun u=>BL n dst u ρ K:=rfl
theorem MT(s d:TypeId)(x:Operand):CJ P n ⟨dst,.convert s d x,ty,pos,aft,gd⟩ ρ A K=A9 (BM ρ x) fun v=>LH P s d (P.underlying s) (P.underlying d) v A fun u=>BL n dst u ρ K:=rfl
theorem PB(t:TypeId)(x i:Operand)(ok:Bool):CJ P n ⟨dst,.lookup t x i ok,ty,pos,aft,gd⟩ ρ A K=A9 (BM ρ x) fun m=>A9 (BM ρ i) fun k=>A9 (F3 P (Instr.lookup t m k ok) A) fun u=>BL n dst u ρ K:=rfl
theorem aE(x:Operand)(t:TypeId):CJ P n ⟨dst,.call ⟨.builtin .len,#[x],#[t]⟩,ty,pos,aft,gd⟩ ρ A K=A9 (BM ρ x) fun v=>JX P t v A fun u=>BL n dst u ρ K:=by
 unfold CJ
 simp only[G8]
 cases BM ρ x<;>simp[A9,Em]
theorem Ma(t:TypeId)(x i:Operand)(ok:Bool):Dm sp (.lookup t x i ok)=false:=rfl
theorem MG(g:FuncId)(fs vs cs:List Value)(K:Value→Prop):SZ P (.func (.func g) fs.toArray cs.toArray) vs A K=Br (AD P g=true) (A9 (Bi P g (fs++vs++cs).toArray A) K):=by
 unfold SZ;simp
@[congr] theorem cnvQA_congr {P:Program} {s d:TypeId} {us us' ud ud':Option TypeDesc} {x:Value} {A:AH} {K:Value→Prop} (h1:us=us') (h2:ud=ud'):LH P s d us ud x A K=LH P s d us' ud' x A K:=by rw[h1,h2]
theorem QW(s d:TypeId)(k k':IntKind)(a:Int)(ds:TypeDesc)(K:Value→Prop):LH P s d (some ds) (some (.int k)) (.int k' a) A K=K (.int k (k.wrap a)):=by cases ds<;>rfl
theorem P8(s d:TypeId)(ds:TypeDesc)(x:Value)(K:Value→Prop):LH P s d (some ds) (some .string) x A K=A9 (F3 P (convert s d x) A) K:=by cases ds<;>rfl
end
theorem Ms{P:Program}{g:FuncId}{args:Array Value}{A:AH}{v:Value}(hi:P.inits.idxOf? g=none)(hc:AD P g=true)(hp: ∀h,CallsH P g args h fun e h'=>e=.returned v∧Grew h h'):Bi P g args A=some v:=
 BP ⟨fun _=>hi,fun h _=>by unfold Fl;rw[if_pos hc];exact hp h⟩
theorem DW{P:Program}{g:FuncId}{args:Array Value}{A:AH}{v:Value}(hi:P.inits.idxOf? g=none)(hc:AD P g=true)(hp: ∀h,CallsH P g args h fun e h'=>e=.returned v∧h'=h):Bi P g args A=some v:=
 Ms hi hc fun h=>(hp h).mono0 fun e h' ⟨h1,h2⟩=>⟨h1,by rw[h2];exact Grew.refl h⟩
@[congr] theorem opSG_congr {P:Program} {imp:Imp} {nt:Nat} {all:List Oper} {As:AH} {m:Nat} {ν:Nu} {n:Nat} {ρ:Bc} {A:AH} {K:AH→Nu→Nat→Bc→AH→Prop} {o o':Option Oper} (e:o=o'):FN P imp nt all As m ν n ρ A K o=FN P imp nt all As m ν n ρ A K o':=by rw[e]
noncomputable def Ti(P:Program)(imp:Imp)(nt:Nat)(As:AH)(m:Nat)(ν:Nu)(n:Nat)(ρ:Bc)(A:AH)(K:AH→Nu→Nat→Bc→AH→Prop)(o:Oper)(b:Bool):Prop:=match b with
 |true=>CJ P nt o ρ As fun ρ'=>K As ν n ρ' A
 |false=>CB P imp nt o ν n ρ A fun ν n ρ' A'=>F8 As A' m fun As'=>K As' ν n ρ' A'
@[congr] theorem opSB_congr {P:Program} {imp:Imp} {nt:Nat} {As:AH} {m:Nat} {ν:Nu} {n:Nat} {ρ:Bc} {A:AH} {K:AH→Nu→Nat→Bc→AH→Prop} {o:Oper} {b b':Bool} (e:b=b'):Ti P imp nt As m ν n ρ A K o b=Ti P imp nt As m ν n ρ A K o b':=by rw[e]
section
variable (P:Program) (imp:Imp) (nt:Nat) (all:List Oper) (As:AH) (m:Nat) (ν:Nu) (n:Nat) (ρ:Bc) (A:AH) (K:AH→Nu→Nat→Bc→AH→Prop) (K0:Nu→Nat→Bc→AH→Prop)
variable (dst:Option Nat) (ty:TypeId) (pos:String) (aft:Array Edge) (gd:Option (Nat×Bool))
theorem kQ:Dw P imp nt all [] As ν n ρ A K0=K0 ν n ρ A:=rfl
theorem Ys(i:Nat)(l:List (Nat×Nat)):Dw P imp nt all ((i,m)::l) As ν n ρ A K0=FN P imp nt all As m ν n ρ A (fun As ν n ρ' A=>Dw P imp nt all l As ν n ρ' A K0) all[i]? :=rfl
theorem QT(op:Op):FN P imp nt all As m ν n ρ A K (some ⟨dst,op,ty,pos,aft,none⟩)=Ti P imp nt As m ν n ρ A K ⟨dst,op,ty,pos,aft,none⟩ (B4 imp op):=by
 simp only[FN,KD,Ti];cases B4 imp op<;>simp
theorem Qp(op:Op)(j:Nat)(want:Bool):FN P imp nt all As m ν n ρ A K (some ⟨dst,op,ty,pos,aft,some (j,want)⟩)=A9 (C2 all j) fun s=>A9 (get ρ s) fun v=>mT want v (Ti P imp nt As m ν n ρ A K ⟨dst,op,ty,pos,aft,some (j,want)⟩ (B4 imp op)) (BL nt dst undef ρ fun ρ'=>K As ν n ρ' A):=by
 simp only[FN,KD,Ti];cases B4 imp op<;>simp
theorem RK(o:Oper):Ti P imp nt As m ν n ρ A K o true=CJ P nt o ρ As fun ρ'=>K As ν n ρ' A:=rfl
theorem Of(o:Oper):Ti P imp nt As m ν n ρ A K o false=CB P imp nt o ν n ρ A fun ν n ρ' A'=>F8 As A' m fun As'=>K As' ν n ρ' A':=rfl
theorem Yf(A':AH)(K:AH→Prop):F8 As A' 0 K=Br (SubA As A') (K As):=rfl
theorem ZB(A':AH)(K:AH→Prop):F8 As A' 1 K=Br (SubA As A') (K A'):=rfl
theorem Pq{b:Nat}{o:Obj}{A B:AH}(h:AA B b=some o)(k:SubA A B):SubA ((b,o)::A) B:=fun x u hl=>by
 simp only[AA]at hl
 split at hl
 ·rename_i e;subst e;cases hl;exact h
 ·exact k x u hl
theorem Xt(A':AH)(K:AH→Prop):F8 As A' 2 K=K A':=rfl
theorem Pf(l:List Nat)(X:Xp)(g:Nat)(xs:Array Operand)(ts:Array TypeId):B4 ⟨l,X⟩ (.call ⟨.value (.func g),xs,ts⟩)= !l.contains g:=rfl
theorem Ou(x:Operand):B4 imp (.panic x)=false:=rfl
theorem Re(x:Operand):B4 imp (.move x)=true:=rfl
theorem L8(x:Operand):B4 imp (.assign x)=true:=rfl
theorem Ri(x a b:Operand):B4 imp (.pick x a b)=true:=rfl
theorem NL(t:TypeId)(ps:Array (Nat×Operand)):B4 imp (.build t ps)=true:=rfl
theorem QE(t:TypeId)(x:Operand):B4 imp (.load t x)=true:=rfl
theorem Jl(x:Operand):B4 imp (.nilCheck x)=true:=rfl
theorem OT(op:BinOp)(t:TypeId)(x y:Operand)(t':TypeId):B4 imp (.binOp op t x y t')=true:=rfl
theorem Qs(op:UnOp)(t:TypeId)(x:Operand):B4 imp (.unOp op t x)=true:=rfl
theorem GC(t:TypeId)(x:Operand):B4 imp (.makeInterface t x)=true:=rfl
theorem Jt(f:Fn)(x y:Array Operand):B4 imp (.makeFunc f x y)=true:=rfl
theorem H6(t:TypeId)(x:Operand)(i:Nat):B4 imp (.fieldAddr t x i)=true:=rfl
theorem O8(t:TypeId)(x:Operand)(i:Nat):B4 imp (.field t x i)=true:=rfl
theorem JD(t:TypeId)(x i:Operand):B4 imp (.indexAddr t x i)=true:=rfl
theorem N4(t:TypeId)(x i:Operand):B4 imp (.index t x i)=true:=rfl
theorem Kf(x:Operand)(i:Nat):B4 imp (.extract x i)=true:=rfl
theorem Nn(t:TypeId)(x:Operand)(a b c:Option Operand):B4 imp (.slice t x a b c)=true:=rfl
theorem K3(s d:TypeId)(x:Operand):B4 imp (.convert s d x)=true:=rfl
theorem MF(t:TypeId)(x i:Operand)(ok:Bool):B4 imp (.lookup t x i ok)=true:=rfl
theorem V5(xs:Array Operand)(ts:Array TypeId):B4 imp (.call ⟨.builtin .len,xs,ts⟩)=true:=rfl
theorem L5(xs:Array Operand)(ts:Array TypeId):B4 imp (.call ⟨.builtin .append,xs,ts⟩)=false:=rfl
theorem Pg(xs:Array Operand)(ts:Array TypeId):B4 imp (.call ⟨.builtin .copy,xs,ts⟩)=false:=rfl
theorem MB(xs:Array Operand)(ts:Array TypeId):B4 imp (.call ⟨.builtin .delete,xs,ts⟩)=false:=rfl
theorem Ol(xs:Array Operand)(ts:Array TypeId):B4 imp (.call ⟨.builtin .clear,xs,ts⟩)=false:=rfl
theorem O6(t:TypeId)(x y:Operand):B4 imp (.store t x y)=false:=rfl
theorem OV(t:TypeId):B4 imp (.alloc t)=false:=rfl
theorem VM(t:TypeId)(x:Operand):B4 imp (.box t x)=false:=rfl
theorem Hb(t:TypeId)(m:Nat)(ps:Array (Nat×Operand)):B4 imp (.buildSlice t m ps)=false:=rfl
theorem LP(t:TypeId)(x:Option Operand):B4 imp (.makeMap t x)=false:=rfl
theorem Hp(t:TypeId)(x i y:Operand):B4 imp (.mapUpdate t x i y)=false:=rfl
theorem MC(t:TypeId)(x i y:Operand):B4 imp (.insert t x i y)=false:=rfl
theorem JB(t:TypeId)(l c:Operand):B4 imp (.makeSlice t l c)=false:=rfl
theorem LA(g:Nat):([]:List Nat).contains g=false:=rfl
theorem contains_cons(x g:Nat)(l:List Nat):(x::l).contains g=if g=x then true else l.contains g:=by rw[List.contains_cons];by_cases h:g=x<;>simp[h]
end
theorem vmDA:type_of% (An @HM (An @Mi (An @Nx (An @ME (An @gA (An @hU (An @so (An @tc (An @Xa (An @UK (An @jJ (An @ju (An @ZK (An @T3 (An @TE (An @Yj (An @Qc (An @OZ (An @aW (An @Wa (An @Zh (An @fU (An @Tp (An @pE (An @Yz (An @Ww (An @Tt (An @fq (An @eu (An @X5 (An @Yt (An @Qh (An @aY (An @MW (An @Td (An @aA (An @Gw (An @Kd (An @TP (An @Kl (An @Vz (An @Nb (An @U1 (An @L0 (An @WY (An @Qf (An @aV (An @Z3 (An @Xj (An @T7 (An @Sz (An @WB (An @dN (An @Ji (An @NJ (An @NR (An @Kk (An @RR (An @Ks (An @QM (An @V2 (An @ZS (An @Jr (An @gG (An @eE (An @iA (An @RM (An @Yo (An @Qu (An @Vg (An @fV (An @NG (An @Vw (An @T5 (An @UN (An @Qm (An @K9 (An @JR (An @KU (An @HK (An @Fi (An @Nr (An @P4 (An @aK @bM)))))))))))))))))))))))))))))))))))))))))))))))))))))))))))))))))))))))))))))))))))):=⟨@HM,@Mi,@Nx,@ME,@gA,@hU,@so,@tc,@Xa,@UK,@jJ,@ju,@ZK,@T3,@TE,@Yj,@Qc,@OZ,@aW,@Wa,@Zh,@fU,@Tp,@pE,@Yz,@Ww,@Tt,@fq,@eu,@X5,@Yt,@Qh,@aY,@MW,@Td,@aA,@Gw,@Kd,@TP,@Kl,@Vz,@Nb,@U1,@L0,@WY,@Qf,@aV,@Z3,@Xj,@T7,@Sz,@WB,@dN,@Ji,@NJ,@NR,@Kk,@RR,@Ks,@QM,@V2,@ZS,@Jr,@gG,@eE,@iA,@RM,@Yo,@Qu,@Vg,@fV,@NG,@Vw,@T5,@UN,@Qm,@K9,@JR,@KU,@HK,@Fi,@Nr,@P4,@aK,@bM⟩
theorem vmVA:type_of% (An @S4 (An @qd (An @oz (An @tJ (An @Om (An @MH (An @ag (An @PE (An @Rm (An @NA (An @Xv (An @K9 (An @JR (An @KU (An @HK (An @Fi (An @Rl (An @UM (An @Qt (An @VZ (An @Q1 (An @Ra (An @Yq (An @aL (An @ez (An @Pe (An @QR (An @OD (An @RE (An @O7 (An @Qz (An @Ur (An @TU @Q4))))))))))))))))))))))))))))))))):=⟨@S4,@qd,@oz,@tJ,@Om,@MH,@ag,@PE,@Rm,@NA,@Xv,@K9,@JR,@KU,@HK,@Fi,@Rl,@UM,@Qt,@VZ,@Q1,@Ra,@Yq,@aL,@ez,@Pe,@QR,@OD,@RE,@O7,@Qz,@Ur,@TU,@Q4⟩
theorem vmSA:type_of% (An @kQ (An @Ys (An @QT (An @Qp (An @Yf (An @ZB (An @Xt (An @Ta (An @Pq (An @LK @JN)))))))))):=⟨@kQ,@Ys,@QT,@Qp,@Yf,@ZB,@Xt,@Ta,@Pq,@LK,@JN⟩
theorem vmSV:type_of% (An @RK (An @Of (An @Pf (An @Ou (An @Re (An @L8 (An @Ri (An @NL (An @QE (An @Jl (An @OT (An @Qs (An @GC (An @Jt (An @H6 (An @O8 (An @JD (An @N4 (An @Kf (An @Nn (An @K3 (An @MF (An @V5 (An @L5 (An @Pg (An @MB (An @Ol (An @O6 (An @OV (An @VM (An @Hb (An @LP (An @Hp (An @MC (An @JB (An @LA (An @contains_cons (An @LK @JN)))))))))))))))))))))))))))))))))))))):=⟨@RK,@Of,@Pf,@Ou,@Re,@L8,@Ri,@NL,@QE,@Jl,@OT,@Qs,@GC,@Jt,@H6,@O8,@JD,@N4,@Kf,@Nn,@K3,@MF,@V5,@L5,@Pg,@MB,@Ol,@O6,@OV,@VM,@Hb,@LP,@Hp,@MC,@JB,@LA,@contains_cons,@LK,@JN⟩
theorem vmQA:type_of% (An @iM (An @T0 (An @oy (An @QL (An @XH (An @ZF (An @XY (An @Xy (An @VB (An @Vk (An @Ns (An @UE (An @Kc (An @Q3 (An @Vt (An @GU (An @Jg (An @RZ (An @Js (An @QK (An @L6 (An @QG (An @Qd (An @Oq (An @VT (An @To (An @MT (An @PB (An @aE @MG))))))))))))))))))))))))))))):=⟨@iM,@T0,@oy,@QL,@XH,@ZF,@XY,@Xy,@VB,@Vk,@Ns,@UE,@Kc,@Q3,@Vt,@GU,@Jg,@RZ,@Js,@QK,@L6,@QG,@Qd,@Oq,@VT,@To,@MT,@PB,@aE,@MG⟩
theorem vmRA:type_of% (An @JO (An @HE (An @Ma (An @QW @P8)))):=⟨@JO,@HE,@Ma,@QW,@P8⟩
end Go.Vm
