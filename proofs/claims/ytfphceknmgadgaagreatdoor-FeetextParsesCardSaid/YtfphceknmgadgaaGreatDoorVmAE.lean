/-
The second evaluator's equations, for simp.
Conditions: none. Generic: it speaks of no program.
-/
import Derived.Test.YtfphceknmgadgaaGreatDoorVmAK
set_option linter.unusedSimpArgs false
set_option linter.unusedVariables false
namespace Go.Vm
def pR(X:List PanicEntry→AH→Prop)(v:Value)(A:AH)(_t:Tg X:=()):Prop:=match v with| .iface t u=>X [{v:=.iface t u,recovered:=false}] A|_=>False
theorem Wa(X:List PanicEntry→AH→Prop)(t:TypeId)(u:Value)(A:AH):pR X (.iface t u) A=X [{v:=.iface t u,recovered:=false}] A:=rfl
def oy(v u:Value)(K:IntKind→Int→Int→Prop):Prop:=match v,u with| .int k a,.int _ b=>K k a b|_,_=>False
def bR(u:Option TypeDesc)(K:Value→Prop):Prop:=match u with|some (.map _ _)=>K (.int .i64 0)|_=>False
@[congr] theorem lenN_congr {u u':Option TypeDesc} {K:Value→Prop} (h1:u=u'):bR u K=bR u' K:=by rw[h1]
theorem Bv{c K:Prop}(h:c):Bf c K=K:=by simp[Bf,h]
def Dm(o:Oper):Oper:=⟨o.dst,o.op,o.type,"",#[],o.guard⟩
def Bc(l:List Oper):List Oper:=l.map Dm
theorem Fp:Bc []=[]:=rfl
theorem Kx(dst:Option Nat)(op:Op)(ty:TypeId)(pos:String)(aft:Array Edge)(gd:Option (Nat×Bool))(l:List Oper):Bc (⟨dst,op,ty,pos,aft,gd⟩::l)=⟨dst,op,ty,"",#[],gd⟩::Bc l:=rfl
theorem Lv(l k:List Oper):Bc (List.append l k)=Bc l++Bc k:=by simp[Bc]
theorem Kv(l k:List Oper):Bc (l++k)=Bc l++Bc k:=by simp[Bc]
theorem EY(l:List Oper)(j:Nat):Cj (Bc l) j=Cj l j:=by
 unfold Cj Bc
 rw[List.getElem?_map]
 cases l[j]? <;>rfl
theorem Gh(cur:Option (Nat×Bool)): ∀l:List Oper,Bl cur (Bc l)=Bc (Bl cur l)
 | []=>rfl
 |o::l=>by
  show Bl cur (Dm o::Bc l)=_
  unfold Bl
  show(if o.guard=cur then _ else _)=_
  split
  ·rfl
  ·rw[Gh cur l];rfl
theorem GL(cur:Option (Nat×Bool)): ∀l:List Oper,CJ cur (Bc l)=Bc (CJ cur l)
 | []=>rfl
 |o::l=>by
  show CJ cur (Dm o::Bc l)=_
  unfold CJ
  show(if o.guard=cur then _ else _)=_
  split
  ·rfl
  ·rw[GL cur l]
theorem KV: ∀l:List Oper,EC (Bc l)=EC l
 | []=>rfl
 |o::l=>by show(Ch o.op&&EC (Bc l))=_;rw[KV l];rfl
theorem KD(sp:Bool): ∀l:List Oper,FF sp (Bc l)=FF sp l
 | []=>rfl
 |o::l=>by show(DE sp o.op&&FF sp (Bc l))=_;rw[KD sp l];rfl
theorem EE: ∀(l:List Oper) (ρ:Ba),DR (Bc l) ρ=DR l ρ
 | [],_=>rfl
 |o::l,ρ=>by
  show DR (Dm o::Bc l) ρ=_
  unfold DR
  show(match o.dst with|some d=>DR (Bc l) ((d,none)::ρ)|none=>DR (Bc l) ρ)=(match o.dst with|some d=>DR l ((d,none)::ρ)|none=>DR l ρ)
  cases o.dst<;>exact EE l _
theorem GX(all:List Oper)(s j:Nat)(want:Bool): ∀(l:List Oper) (sk:List Nat),Cn (Bc all) s j want sk (Bc l)=Cn all s j want sk l
 | [],_=>by simp[Bc,Cn]
 | o::l,sk=>by
  obtain⟨dst,op,ty,pos,aft,gd⟩:=o
  show Cn (Bc all) s j want sk (⟨dst,op,ty,"",#[],gd⟩::Bc l)=_
  cases dst with
  |none=>simp[Cn]
  | some d=>cases gd with
   |none=>simp[Cn]
   |some g=>
    obtain⟨j',w'⟩:=g
    simp only[Cn,EY,GX all s j want l]
theorem M7(P:Program)(imp:Imp)(nt:Nat)(all:List Oper): ∀(m:Nat) (cur:Option (Nat×Bool)) (l:List Oper) (ν:Nu) (n:Nat) (ρ:Ba) (A:AH) (K:Nu→Nat→Ba→AH→Prop),
  Bd P imp nt (Bc all) m cur (Bc l) ν n ρ A K=Bd P imp nt all m cur l ν n ρ A K:=by
 intro m
 induction m with
 |zero=>intro cur l ν n ρ A K;cases l<;>rfl
 | succ m ih=>
  intro cur l ν n ρ A K
  cases l with
  |nil=>rfl
  | cons o l=>
   have hcons:Bc (o::l)=Dm o::Bc l:=rfl
   have e1:Bl cur (Dm o::Bc l)=Bc (Bl cur (o::l)):=Gh cur (o::l)
   have e2:CJ cur (Dm o::Bc l)=Bc (CJ cur (o::l)):=GL cur (o::l)
   rw[hcons]
   unfold Bd
   have hg:(Dm o).guard=o.guard:=rfl
   have hst: ∀K,Bz P imp nt (Dm o) ν n ρ A K=Bz P imp nt o ν n ρ A K:=fun K=>by cases o;rfl
   simp only[hg,hst,ih,EY]
   congr 1
   cases o.guard with
   |none=>rfl
   | some jw=>
    obtain⟨j,want⟩:=jw
    simp only
    congr 1
    funext s
    congr 1
    funext v
    cases v<;>try rfl
    simp only
    rw[e1,e2,KV,GX]
    congr 1
    generalize CJ cur (o::l)=aft
    generalize Bl cur (o::l)=g
    have ih0: ∀ν n ρ A K,Bd P imp nt (Bc all) m cur [] ν n ρ A K=Bd P imp nt all m cur [] ν n ρ A K:=fun ν n ρ A K=>ih cur [] ν n ρ A K
    cases EC g with
    |false=>simp only[ih,EE]
    | true=>cases aft with
     |nil=>simp only[Fp,ih,ih0,EE]
     | cons p after=>
      show(match Cs want s p.op with|some y=>_|none=>False)=(match Cs want s p.op with|some y=>_|none=>False)
      cases Cs want s p.op with
      |none=>rfl
      | some y=>
       simp only[ih]
       congr 1
       funext ν n ρ' A
       exact congrArg (fun K=>Ay (BE ρ' y) K) (by
        funext c
        rw[EE]
        show C9 nt p.dst want _ c (DR g ρ) _=_
        congr 1
        funext ρ''
        exact ih cur after ν n ρ'' A K)
theorem Rh(P:Program)(nt:Nat)(sp:Bool)(all:List Oper)(A:AH): ∀(m:Nat) (cur:Option (Nat×Bool)) (l:List Oper) (ρ:Ba) (K:Ba→Prop),
  B6 P nt sp (Bc all) A m cur (Bc l) ρ K=B6 P nt sp all A m cur l ρ K:=by
 intro m
 induction m with
 |zero=>intro cur l ρ K;cases l<;>rfl
 | succ m ih=>
  intro cur l ρ K
  cases l with
  |nil=>rfl
  | cons o l=>
   have hcons:Bc (o::l)=Dm o::Bc l:=rfl
   have e1:Bl cur (Dm o::Bc l)=Bc (Bl cur (o::l)):=Gh cur (o::l)
   have e2:CJ cur (Dm o::Bc l)=Bc (CJ cur (o::l)):=GL cur (o::l)
   rw[hcons]
   unfold B6
   have hg:(Dm o).guard=o.guard:=rfl
   have hst: ∀K,B4 P nt (Dm o) ρ A K=B4 P nt o ρ A K:=fun K=>by cases o;rfl
   simp only[hg,hst,ih,EY]
   congr 1
   cases o.guard with
   |none=>rfl
   | some jw=>
    obtain⟨j,want⟩:=jw
    simp only
    congr 1
    funext s
    congr 1
    funext v
    cases v<;>try rfl
    simp only
    rw[e1,e2,KD,GX]
    congr 1
    generalize CJ cur (o::l)=aft
    generalize Bl cur (o::l)=g
    have ih0: ∀ρ K,B6 P nt sp (Bc all) A m cur [] ρ K=B6 P nt sp all A m cur [] ρ K:=fun ρ K=>ih cur [] ρ K
    cases FF sp g with
    |false=>simp only[ih,EE]
    | true=>cases aft with
     |nil=>simp only[Fp,ih,ih0,EE]
     | cons p after=>
      show(match Cs want s p.op with|some y=>_|none=>False)=(match Cs want s p.op with|some y=>_|none=>False)
      cases Cs want s p.op with
      |none=>rfl
      | some y=>
       simp only[ih]
       congr 1
       funext ρ'
       exact congrArg (fun K=>Ay (BE ρ' y) K) (by
        funext c
        rw[EE]
        show C9 nt p.dst want _ c (DR g ρ) _=_
        congr 1
        funext ρ''
        exact ih cur after ρ'' K)
theorem Kt(P:Program)(imp:Imp)(nt:Nat)(all:List Oper): ∀(pl:List (Nat×Nat)) (As:AH) (ν:Nu) (n:Nat) (ρ:Ba) (A:AH) (K:Nu→Nat→Ba→AH→Prop),
  DM P imp nt (Bc all) pl As ν n ρ A K=DM P imp nt all pl As ν n ρ A K
 | [],_,_,_,_,_,_=>rfl
 | (i,m)::l,As,ν,n,ρ,A,K=>by
  have e:(Bc all)[i]? =all[i]?.map Dm:=by unfold Bc;rw[List.getElem?_map]
  unfold DM
  simp only[Kt P imp nt all l,e]
  cases all[i]? with
  |none=>rfl
  |some o=>
   obtain⟨dst,op,ty,pos,aft,gd⟩:=o
   simp only[Option.map_some,Dm,EF]
   cases gd with
   |none=>simp only[HP];rfl
   |some g=>obtain⟨j,want⟩:=g;simp only[HP,EY];rfl
def LW(l:List Oper)(K:List Oper→Prop)(_t:Tg K:=()):Prop:=K l
theorem RH(l:List Oper)(K:List Oper→Prop):LW l K=K l:=rfl
section
variable (c:CxA) (k:List It) (ν:Nu) (n:Nat) (ρ:Ba) (A:AH)
theorem dg[dd:DefD]:Bi c [] ν n ρ A=XX c ρ A:=by rw[Bi]
theorem d6[dd:DefD](id:Nat):Bi c (.blk id::k) ν n ρ A=Bi c k ν n ρ A:=by rw[Bi]
theorem jg[dd:DefD](b:Code):Bi c (.sc b::k) ν n ρ A=Bi c k ν n ρ A:=by rw[Bi]
theorem lG[dd:DefD](b:Code):Bi c (.lp b::k) ν n ρ A=Dk (canon c.live ρ) fun ρ=> @Ah dd c b k ρ A ():=by rw[Bi];rfl
theorem Vt[dd:DefD]:Bi c (.code .skip::k) ν n ρ A=Bi c k ν n ρ A:=by rw[Bi]
theorem Qv[dd:DefD](l:Nat):Bi c (.code (.label l)::k) ν n ρ A=Bi c k ν n ρ A:=by rw[Bi]
theorem Z7[dd:DefD]:Bi c (.code .ret::k) ν n ρ A=XX c ρ A:=by rw[Bi]
theorem bW[dd:DefD](x y:Code):Bi c (.code (.seq x y)::k) ν n ρ A=Bi c (.code x:: .code y::k) ν n ρ A:=by rw[Bi]
theorem Vs[dd:DefD](x:Operand)(t e:Code):Bi c (.code (.cond x t e)::k) ν n ρ A=Ay (BE ρ x) fun v=>QG v (Bi c (.code t::k) ν n ρ A) (Bi c (.code e::k) ν n ρ A):=by rw[Bi]
theorem RJ[dd:DefD](id:Nat)(b:Code):Bi c (.code (.block id b)::k) ν n ρ A=Bi c (.code b:: .blk id::k) ν n ρ A:=by rw[Bi]
theorem Sf[dd:DefD](b:Code):Bi c (.code (.scope b)::k) ν n ρ A=Bi c (.code b:: .sc b::k) ν n ρ A:=by rw[Bi]
theorem Wz[dd:DefD](b:Code):Bi c (.code (.loop b)::k) ν n ρ A=Dk (canon c.live ρ) fun ρ=> @Ah dd c b k ρ A ():=by rw[Bi];rfl
theorem NT[dd:DefD](id:Nat)(ops:List Oper):Bi c (.code (.region id ops.toArray false)::k) ν n ρ A=Dk (canon c.live ρ) fun ρ=>LW (Bc ops) fun ops=>Bd c.P c.imp c.n ops 400 none ops ν n ρ A fun ν n ρ' A=>Bi c k ν n ρ' A:=by
 rw[Bi];exact(M7 ..).symm
noncomputable def nw[dd:DefD](p:Option Pln)(id:Nat)(ops:List Oper):Prop:=match p with
 |some (.q sp)=>Dk (canon c.live ρ) fun ρ=>LW (Bc ops) fun ops=>B6 c.P c.n sp ops A 400 none ops ρ fun ρ'=>Bi c k ν n ρ' A
 |some (.p pl)=>Dk (canon c.live ρ) fun ρ=>LW (Bc ops) fun ops=>DM c.P c.imp c.n ops pl A ν n ρ A fun ν n ρ' A=>Bi c k ν n ρ' A
 |none=>Dk (canon c.live ρ) fun ρ=> @CO dd c (.code (.region id ops.toArray true)::k) ρ A ()
@[congr] theorem dRg_congr [dd:DefD] {c:CxA} {k:List It} {ν:Nu} {n:Nat} {ρ:Ba} {A:AH} {p p':Option Pln} {id:Nat} {ops:List Oper} (e:p=p'):nw c k ν n ρ A p id ops=nw c k ν n ρ A p' id ops:=by rw[e]
theorem MX[dd:DefD](id:Nat)(ops:List Oper):Bi c (.code (.region id ops.toArray true)::k) ν n ρ A=nw c k ν n ρ A (F4 c.plans id) id ops:=by
 rw[Bi];unfold nw Dk LW;cases F4 c.plans id with
 |none=>rfl
 |some p=>cases p with
  |q sp=>exact(Rh ..).symm
  |p pl=>exact(Kt ..).symm
theorem kK[dd:DefD](id:Nat)(sp:Bool)(ops:List Oper):nw c k ν n ρ A (some (.q sp)) id ops=Dk (canon c.live ρ) fun ρ=>LW (Bc ops) fun ops=>B6 c.P c.n sp ops A 400 none ops ρ fun ρ'=>Bi c k ν n ρ' A:=rfl
theorem lr[dd:DefD](id:Nat)(pl:List (Nat×Nat))(ops:List Oper):nw c k ν n ρ A (some (.p pl)) id ops=Dk (canon c.live ρ) fun ρ=>LW (Bc ops) fun ops=>DM c.P c.imp c.n ops pl A ν n ρ A fun ν n ρ' A=>Bi c k ν n ρ' A:=rfl
theorem lj[dd:DefD](id:Nat)(ops:List Oper):nw c k ν n ρ A none id ops=Dk (canon c.live ρ) fun ρ=> @CO dd c (.code (.region id ops.toArray true)::k) ρ A ():=rfl
theorem Lp(j:Nat):F4 [] j=none:=rfl
theorem Kb(i j:Nat)(p:Pln)(l:List (Nat×Pln)):F4 ((i,p)::l) j=if i=j then some p else F4 l j:=rfl
theorem VL[dd:DefD](id:Nat):Bi c (.code (.exit id)::k) ν n ρ A=UZ c (Cu id k) ν n ρ A:=by
 rw[Bi];split<;>rename_i h<;>rw[h]<;>rfl
theorem Rx[dd:DefD]:UZ c (some k) ν n ρ A=Bi c k ν n ρ A:=rfl
@[congr] theorem dXA_congr [dd:DefD] {c:CxA} {k k':Option (List It)} {ν:Nu} {n:Nat} {ρ:Ba} {A:AH} (e:k=k'):UZ c k ν n ρ A=UZ c k' ν n ρ A:=by rw[e]
theorem VF:XX c ρ A=Ay (F7 c.P ρ A c.fn.results.toList) fun vs=>c.R (one vs) A:=rfl
end
section
variable (P:Program) (imp:Imp) (nt:Nat) (all:List Oper) (m:Nat) (ν:Nu) (n:Nat) (ρ:Ba) (A:AH) (K:Nu→Nat→Ba→AH→Prop)
variable (dst:Option Nat) (ty:TypeId) (pos:String) (aft:Array Edge) (gd:Option (Nat×Bool)) (rest:List Oper)
theorem Yw(cur:Option (Nat×Bool)):Bd P imp nt all (m+1) cur [] ν n ρ A K=K ν n ρ A:=rfl
theorem TD(op:Op):Bd P imp nt all (m+1) none (⟨dst,op,ty,pos,aft,none⟩::rest) ν n ρ A K=
  Bz P imp nt ⟨dst,op,ty,pos,aft,none⟩ ν n ρ A fun ν n ρ' A=>Bd P imp nt all m none rest ν n ρ' A K:=by simp[Bd]
theorem gJ(op:Op)(g:Nat×Bool):Bd P imp nt all (m+1) (some g) (⟨dst,op,ty,pos,aft,some g⟩::rest) ν n ρ A K=
  Bz P imp nt ⟨dst,op,ty,pos,aft,some g⟩ ν n ρ A fun ν n ρ' A=>Bd P imp nt all m (some g) rest ν n ρ' A K:=by simp[Bd]
noncomputable def fh(cur:Option (Nat×Bool))(j:Nat)(want:Bool)(g after:List Oper)(s:Nat)(b:Bool)(pure:Bool):Prop:=
 match pure,after with
 |true,p::after'=>match Cs want s p.op with
  |some y=>Bd P imp nt all m (some (j,want)) g ν n ρ A fun ν n ρ' A=>Ay (BE ρ' y) fun c=>C9 nt p.dst want b c (DR g ρ) fun ρ''=>Bd P imp nt all m cur after' ν n ρ'' A K
  |none=>False
 |_,after=>Jx (b==want) (Bd P imp nt all m (some (j,want)) g ν n ((s,some (.bool want))::ρ) A fun ν n ρ' A=>Bd P imp nt all m cur after ν n ρ' A K) (Bd P imp nt all m cur after ν n (DR g ((s,some (.bool (!want)))::ρ)) A K)
@[congr] theorem gpA_congr {P:Program} {imp:Imp} {nt:Nat} {all:List Oper} {m:Nat} {ν:Nu} {n:Nat} {ρ:Ba} {A:AH} {K:Nu→Nat→Ba→AH→Prop} {cur:Option (Nat×Bool)} {j:Nat} {want:Bool} {g g' after after':List Oper} {s:Nat} {b pu pu':Bool} (h1:g=g') (h2:after=after') (h3:pu=pu'):
  fh P imp nt all m ν n ρ A K cur j want g after s b pu=fh P imp nt all m ν n ρ A K cur j want g' after' s b pu':=by rw[h1,h2,h3]
noncomputable def rN(cur:Option (Nat×Bool))(j:Nat)(want:Bool)(g after:List Oper)(s:Nat)(v:Value):Prop:=
 match v with| .bool b=>Bf (Cn all s j want [] g=true) (fh P imp nt all m ν n ρ A K cur j want g after s b (EC g))|_=>False
theorem Rm(cur:Option (Nat×Bool))(j:Nat)(want:Bool)(g after:List Oper)(s:Nat)(b:Bool):
  rN P imp nt all m ν n ρ A K cur j want g after s (.bool b)=Bf (Cn all s j want [] g=true) (fh P imp nt all m ν n ρ A K cur j want g after s b (EC g)):=rfl
theorem Td(op:Op)(cur:Option (Nat×Bool))(j:Nat)(want:Bool)(hne: ¬some (j,want)=cur):Bd P imp nt all (m+1) cur (⟨dst,op,ty,pos,aft,some (j,want)⟩::rest) ν n ρ A K=
  Ay (Cj all j) fun s=>Ay (get ρ s) fun v=>rN P imp nt all m ν n ρ A K cur j want
   (⟨dst,op,ty,pos,aft,some (j,want)⟩::Bl cur rest) (CJ cur rest) s v:=by
 have h1:Bl cur (⟨dst,op,ty,pos,aft,some (j,want)⟩::rest)=⟨dst,op,ty,pos,aft,some (j,want)⟩::Bl cur rest:=by simp[Bl,hne]
 have h2:CJ cur (⟨dst,op,ty,pos,aft,some (j,want)⟩::rest)=CJ cur rest:=by simp[CJ,hne]
 rw[Bd,if_neg hne,h1,h2]
 congr 1
theorem XS(op:Op)(j:Nat)(want:Bool):Bd P imp nt all (m+1) none (⟨dst,op,ty,pos,aft,some (j,want)⟩::rest) ν n ρ A K=
  Ay (Cj all j) fun s=>Ay (get ρ s) fun v=>rN P imp nt all m ν n ρ A K none j want
   (⟨dst,op,ty,pos,aft,some (j,want)⟩::Bl none rest) (CJ none rest) s v:=Td P imp nt all m ν n ρ A K dst ty pos aft rest op none j want (by simp)
theorem Z2(cur:Option (Nat×Bool))(j:Nat)(want:Bool)(g after:List Oper)(s:Nat)(b:Bool):fh P imp nt all m ν n ρ A K cur j want g after s b false=
  Jx (b==want) (Dk ((s,some (.bool want))::ρ) fun ρ=>Bd P imp nt all m (some (j,want)) g ν n ρ A fun ν n ρ' A=>Dk ρ' fun ρ'=>Bd P imp nt all m cur after ν n ρ' A K) (Dk (DR g ((s,some (.bool (!want)))::ρ)) fun ρ=>Bd P imp nt all m cur after ν n ρ A K):=rfl
theorem eA(cur:Option (Nat×Bool))(j:Nat)(g after:List Oper)(s:Nat)(b:Bool)(y:Operand):fh P imp nt all m ν n ρ A K cur j false g (⟨dst,.pick (.tmp s) (.const (.bool true)) y,ty,pos,aft,gd⟩::after) s b true=
  Dk (DR g ρ) fun ρ2=>Bd P imp nt all m (some (j,false)) g ν n ρ A fun ν n ρ' A=>Ay (BE ρ' y) fun c=>C9 nt dst false b c ρ2 fun ρ''=>Bd P imp nt all m cur after ν n ρ'' A K:=by simp[fh,Cs,Dk]
theorem WA(cur:Option (Nat×Bool))(j:Nat)(g after:List Oper)(s:Nat)(b:Bool)(y:Operand):fh P imp nt all m ν n ρ A K cur j true g (⟨dst,.pick (.tmp s) y (.const (.bool false)),ty,pos,aft,gd⟩::after) s b true=
  Dk (DR g ρ) fun ρ2=>Bd P imp nt all m (some (j,true)) g ν n ρ A fun ν n ρ' A=>Ay (BE ρ' y) fun c=>C9 nt dst true b c ρ2 fun ρ''=>Bd P imp nt all m cur after ν n ρ'' A K:=by simp[fh,Cs,Dk]
theorem VV(x:Operand):Bz P imp nt ⟨dst,.move x,ty,pos,aft,gd⟩ ν n ρ A K=BZ P nt ⟨dst,.move x,ty,pos,aft,gd⟩ ρ #[] (fun ρ' _=>K ν n ρ' A) fun _ _=>False:=Bv rfl
theorem OH(x:Operand):Bz P imp nt ⟨dst,.assign x,ty,pos,aft,gd⟩ ν n ρ A K=BZ P nt ⟨dst,.assign x,ty,pos,aft,gd⟩ ρ #[] (fun ρ' _=>K ν n ρ' A) fun _ _=>False:=Bv rfl
theorem Wo(x a b:Operand):Bz P imp nt ⟨dst,.pick x a b,ty,pos,aft,gd⟩ ν n ρ A K=BZ P nt ⟨dst,.pick x a b,ty,pos,aft,gd⟩ ρ #[] (fun ρ' _=>K ν n ρ' A) fun _ _=>False:=Bv rfl
theorem KG(x:Operand):Bz P imp nt ⟨dst,.nilCheck x,ty,pos,aft,gd⟩ ν n ρ A K=BZ P nt ⟨dst,.nilCheck x,ty,pos,aft,gd⟩ ρ #[] (fun ρ' _=>K ν n ρ' A) fun _ _=>False:=Bv rfl
theorem RG(op:BinOp)(t:TypeId)(x y:Operand)(t2:TypeId):Bz P imp nt ⟨dst,.binOp op t x y t2,ty,pos,aft,gd⟩ ν n ρ A K=BZ P nt ⟨dst,.binOp op t x y t2,ty,pos,aft,gd⟩ ρ #[] (fun ρ' _=>K ν n ρ' A) fun _ _=>False:=Bv rfl
theorem VB(op:UnOp)(t:TypeId)(x:Operand):Bz P imp nt ⟨dst,.unOp op t x,ty,pos,aft,gd⟩ ν n ρ A K=BZ P nt ⟨dst,.unOp op t x,ty,pos,aft,gd⟩ ρ #[] (fun ρ' _=>K ν n ρ' A) fun _ _=>False:=Bv rfl
theorem Fk(t:TypeId)(x:Operand):Bz P imp nt ⟨dst,.makeInterface t x,ty,pos,aft,gd⟩ ν n ρ A K=BZ P nt ⟨dst,.makeInterface t x,ty,pos,aft,gd⟩ ρ #[] (fun ρ' _=>K ν n ρ' A) fun _ _=>False:=Bv rfl
theorem JU(t:TypeId)(x:Operand)(i:Nat):Bz P imp nt ⟨dst,.fieldAddr t x i,ty,pos,aft,gd⟩ ν n ρ A K=BZ P nt ⟨dst,.fieldAddr t x i,ty,pos,aft,gd⟩ ρ #[] (fun ρ' _=>K ν n ρ' A) fun _ _=>False:=Bv rfl
theorem Qo(t:TypeId)(x:Operand)(i:Nat):Bz P imp nt ⟨dst,.field t x i,ty,pos,aft,gd⟩ ν n ρ A K=BZ P nt ⟨dst,.field t x i,ty,pos,aft,gd⟩ ρ #[] (fun ρ' _=>K ν n ρ' A) fun _ _=>False:=Bv rfl
theorem Jc(t:TypeId)(x i:Operand):Bz P imp nt ⟨dst,.indexAddr t x i,ty,pos,aft,gd⟩ ν n ρ A K=BZ P nt ⟨dst,.indexAddr t x i,ty,pos,aft,gd⟩ ρ #[] (fun ρ' _=>K ν n ρ' A) fun _ _=>False:=Bv rfl
theorem Ql(t:TypeId)(x i:Operand):Bz P imp nt ⟨dst,.index t x i,ty,pos,aft,gd⟩ ν n ρ A K=BZ P nt ⟨dst,.index t x i,ty,pos,aft,gd⟩ ρ #[] (fun ρ' _=>K ν n ρ' A) fun _ _=>False:=Bv rfl
theorem MB(x:Operand)(i:Nat):Bz P imp nt ⟨dst,.extract x i,ty,pos,aft,gd⟩ ν n ρ A K=BZ P nt ⟨dst,.extract x i,ty,pos,aft,gd⟩ ρ #[] (fun ρ' _=>K ν n ρ' A) fun _ _=>False:=Bv rfl
theorem Ri(t:TypeId)(ps:List (Nat×Operand)):Bz P imp nt ⟨dst,.build t ps.toArray,ty,pos,aft,gd⟩ ν n ρ A K=BZ P nt ⟨dst,.build t ps.toArray,ty,pos,aft,gd⟩ ρ #[] (fun ρ' _=>K ν n ρ' A) fun _ _=>False:=Bv rfl
theorem KR(fn:Fn)(fs cs:List Operand):Bz P imp nt ⟨dst,.makeFunc fn fs.toArray cs.toArray,ty,pos,aft,gd⟩ ν n ρ A K=BZ P nt ⟨dst,.makeFunc fn fs.toArray cs.toArray,ty,pos,aft,gd⟩ ρ #[] (fun ρ' _=>K ν n ρ' A) fun _ _=>False:=Bv rfl
theorem TC(t:TypeId)(x:Operand)(lo hi:Option Operand):Bz P imp nt ⟨dst,.slice t x lo hi none,ty,pos,aft,gd⟩ ν n ρ A K=BZ P nt ⟨dst,.slice t x lo hi none,ty,pos,aft,gd⟩ ρ #[] (fun ρ' _=>K ν n ρ' A) fun _ _=>False:=Bv rfl
theorem Nz(t:TypeId)(x m:Operand)(lo hi:Option Operand):Bz P imp nt ⟨dst,.slice t x lo hi (some m),ty,pos,aft,gd⟩ ν n ρ A K=Ay (BE ρ x) fun v=>Ay (Ea ρ lo) fun l=>Ay (Ea ρ hi) fun r=>Ay (BE ρ m) fun mv=>NB P t v l r mv fun u=>BJ nt dst u ρ fun ρ'=>K ν n ρ' A:=Bv rfl
theorem XD{P:Program}{t:TypeId}(p:Option Addr)(n m:Nat)(lo hi:Option Value)(mx:Value)(K:Value→Prop):NB P t (.slice p n m) lo hi mx K=Ay (O5 P t) fun e=>Ay (Cv lo 0) fun l=>Ay (Cv hi n) fun r=>Ay (Cv (some mx) m) fun c=>Bf (hi≠none∧0≤l∧l≤r∧r≤c∧c≤m) (K (.slice (if c=l then p else p.map (·.add (l.toNat*e.2.1))) (r.toNat - l.toNat) (c.toNat - l.toNat))):=rfl
theorem XO(f:Operand)(xs:List Operand)(ts:Array TypeId):Bz P imp nt ⟨dst,.call ⟨.value f,xs.toArray,ts⟩,ty,pos,aft,gd⟩ ν n ρ A K=Ay (BE ρ f) fun fv=>Ay (GA ρ xs) fun vs=>OX P imp fv vs A ν n fun ν n u A=>BJ nt dst u ρ fun ρ'=>K ν n ρ' A:=rfl
theorem W8(t:TypeId)(x:Operand):Bz P imp nt ⟨dst,.load t x,ty,pos,aft,gd⟩ ν n ρ A K=Ay (BE ρ x) fun p=>Ay (DW p) fun a=>Ay (Ep P A t a) fun u=>BJ nt dst u ρ fun ρ'=>K ν n ρ' A:=rfl
theorem Sy(t:TypeId)(x y:Operand):Bz P imp nt ⟨dst,.store t x y,ty,pos,aft,gd⟩ ν n ρ A K=Ay (BE ρ x) fun p=>Ay (DW p) fun a=>Ay (BE ρ y) fun v=>Ay (Cw P t) fun s=>Bf (v.cells.size=s.2) (Ay (oK A a v.cells.toList) fun A'=>BJ nt dst undef ρ fun ρ'=>K ν n ρ' A'):=rfl
theorem Q6(l:List Nat)(X:List PanicEntry→AH→Prop)(x:Operand):Bz P ⟨l,some X⟩ nt ⟨dst,.panic x,ty,pos,aft,gd⟩ ν n ρ A K=Ay (BE ρ x) fun v=>pR X v A:=by simp only[Bz];congr;funext v;cases v<;>rfl
theorem Qn(e:TypeId):Bz P imp nt ⟨dst,.alloc e,ty,pos,aft,gd⟩ ν n ρ A K=Ay (DD P e) fun z=>BJ nt dst (.pointer (some ⟨ν n,0,none⟩)) ρ fun ρ'=>K ν (n+1) ρ' ((ν n,.cells z.cells e)::A):=rfl
theorem cZ(e:TypeId)(x:Operand):Bz P imp nt ⟨dst,.box e x,ty,pos,aft,gd⟩ ν n ρ A K=Ay (BE ρ x) fun v=>BJ nt dst (.pointer (some ⟨ν n,0,none⟩)) ρ fun ρ'=>K ν (n+1) ρ' ((ν n,.cells v.cells e)::A):=rfl
theorem G4(t:TypeId)(l:Nat)(ps:List (Nat×Operand)):Bz P imp nt ⟨dst,.buildSlice t l ps.toArray,ty,pos,aft,gd⟩ ν n ρ A K=Ay (AW ρ ps) fun vs=>Ay (Cy P t l vs) fun r=>BJ nt dst (.slice (some ⟨ν n,0,none⟩) l l) ρ fun ρ'=>K ν (n+1) ρ' ((ν n,.cells r.2 r.1)::A):=rfl
theorem LU(t:TypeId):Bz P imp nt ⟨dst,.makeMap t none,ty,pos,aft,gd⟩ ν n ρ A K=BJ nt dst (.map (some (ν n))) ρ fun ρ'=>K ν (n+1) ρ' ((ν n,.map #[] 0)::A):=rfl
theorem Lt(s d:TypeId)(x:Operand):Bz P imp nt ⟨dst,.convert s d x,ty,pos,aft,gd⟩ ν n ρ A K=Ay (BE ρ x) fun v=>KA P s d (P.underlying s) (P.underlying d) v A ν n fun ν n u A=>BJ nt dst u ρ fun ρ'=>K ν n ρ' A:=rfl
theorem Jg(t:TypeId)(l cc:Operand):Bz P imp nt ⟨dst,.makeSlice t l cc,ty,pos,aft,gd⟩ ν n ρ A K=Ay (BE ρ l) fun lv=>Ay (BE ρ cc) fun cv=>Ef P (Instr.makeSlice t lv cv) A ν n fun ν n u A=>BJ nt dst u ρ fun ρ'=>K ν n ρ' A:=rfl
theorem Nv(t:TypeId)(x i:Operand)(ok:Bool):Bz P imp nt ⟨dst,.lookup t x i ok,ty,pos,aft,gd⟩ ν n ρ A K=Ay (BE ρ x) fun m=>Ay (BE ρ i) fun k=>Js P (Instr.lookup t m k ok) A ν n fun ν n u A=>BJ nt dst u ρ fun ρ'=>K ν n ρ' A:=rfl
theorem Hg(t:TypeId)(x i y:Operand):Bz P imp nt ⟨dst,.mapUpdate t x i y,ty,pos,aft,gd⟩ ν n ρ A K=Ay (BE ρ x) fun m=>Ay (BE ρ i) fun k=>Ay (BE ρ y) fun v=>Ef P (do Instr.mapUpdate t m k v;Pure.pure undef) A ν n fun ν n u A=>BJ nt dst u ρ fun ρ'=>K ν n ρ' A:=rfl
theorem Nd(t:TypeId)(x i y:Operand):Bz P imp nt ⟨dst,.insert t x i y,ty,pos,aft,gd⟩ ν n ρ A K=Ay (BE ρ x) fun m=>Ay (BE ρ i) fun k=>Ay (BE ρ y) fun v=>Ef P (do Instr.mapUpdate t m k v;Pure.pure undef) A ν n fun ν n u A=>BJ nt dst u ρ fun ρ'=>K ν n ρ' A:=rfl
theorem RB(t:TypeId)(x:Operand):Bz P imp nt ⟨dst,.range t x,ty,pos,aft,gd⟩ ν n ρ A K=Ay (BE ρ x) fun v=>J1 P t v A ν n fun ν n u A=>BJ nt dst u ρ fun ρ'=>K ν n ρ' A:=rfl
theorem Uo(x:Operand)(s:Bool):Bz P imp nt ⟨dst,.next x s,ty,pos,aft,gd⟩ ν n ρ A K=Ay (BE ρ x) fun v=>PY P v s ty A ν n fun ν n u A=>BJ nt dst u ρ fun ρ'=>K ν n ρ' A:=rfl
theorem HK(x:Operand)(t a:TypeId)(ok:Bool):Bz P imp nt ⟨dst,.typeAssert x t a ok,ty,pos,aft,gd⟩ ν n ρ A K=Ay (BE ρ x) fun v=>Js P (Instr.typeAssert v t a ok) A ν n fun ν n u A=>BJ nt dst u ρ fun ρ'=>K ν n ρ' A:=rfl
theorem eD(x:Operand)(t:TypeId):Bz P imp nt ⟨dst,.call ⟨.builtin .len,#[x],#[t]⟩,ty,pos,aft,gd⟩ ν n ρ A K=Ay (BE ρ x) fun v=>G0 P t v A fun u=>BJ nt dst u ρ fun ρ'=>K ν n ρ' A:=by
 unfold Bz
 simp only[GA]
 cases BE ρ x<;>simp[Ay,Dy]
theorem bf(x y:Operand)(ts:Array TypeId):Bz P imp nt ⟨dst,.call ⟨.builtin .min,#[x,y],ts⟩,ty,pos,aft,gd⟩ ν n ρ A K=Ay (BE ρ x) fun v=>Ay (BE ρ y) fun u=>oy v u fun k a b=>BJ nt dst (.int k (if b<a then b else a)) ρ fun ρ'=>K ν n ρ' A:=by
 unfold Bz
 simp only[GA]
 cases BE ρ x<;>cases BE ρ y<;>simp[Ay,Dy]
 rename_i v u
 cases v<;>cases u<;>simp[oy]
theorem aD(x y:Operand)(ts:Array TypeId):Bz P imp nt ⟨dst,.call ⟨.builtin .max,#[x,y],ts⟩,ty,pos,aft,gd⟩ ν n ρ A K=Ay (BE ρ x) fun v=>Ay (BE ρ y) fun u=>oy v u fun k a b=>BJ nt dst (.int k (if a<b then b else a)) ρ fun ρ'=>K ν n ρ' A:=by
 unfold Bz
 simp only[GA]
 cases BE ρ x<;>cases BE ρ y<;>simp[Ay,Dy]
 rename_i v u
 cases v<;>cases u<;>simp[oy]
theorem Nl(xs:List Operand)(ts:Array TypeId):Bz P imp nt ⟨dst,.call ⟨.builtin .append,xs.toArray,ts⟩,ty,pos,aft,gd⟩ ν n ρ A K=Ay (GA ρ xs) fun vs=>Ef P (Builtin.append_ ts ty vs.toArray) A ν n fun ν n u A=>BJ nt dst u ρ fun ρ'=>K ν n ρ' A:=rfl
theorem Ui(xs:List Operand)(ts:Array TypeId):Bz P imp nt ⟨dst,.call ⟨.builtin .copy,xs.toArray,ts⟩,ty,pos,aft,gd⟩ ν n ρ A K=Ay (GA ρ xs) fun vs=>Ef P (Builtin.copy_ ts ty vs.toArray) A ν n fun ν n u A=>BJ nt dst u ρ fun ρ'=>K ν n ρ' A:=rfl
theorem OB(xs:List Operand)(ts:Array TypeId):Bz P imp nt ⟨dst,.call ⟨.builtin .delete,xs.toArray,ts⟩,ty,pos,aft,gd⟩ ν n ρ A K=Ay (GA ρ xs) fun vs=>Ef P (Builtin.delete_ ts ty vs.toArray) A ν n fun ν n u A=>BJ nt dst u ρ fun ρ'=>K ν n ρ' A:=rfl
theorem Sn(xs:List Operand)(ts:Array TypeId):Bz P imp nt ⟨dst,.call ⟨.builtin .clear,xs.toArray,ts⟩,ty,pos,aft,gd⟩ ν n ρ A K=Ay (GA ρ xs) fun vs=>Ef P (Builtin.clear_ ts ty vs.toArray) A ν n fun ν n u A=>BJ nt dst u ρ fun ρ'=>K ν n ρ' A:=rfl
theorem cd(xs:List Operand)(ts:Array TypeId):Bz P imp nt ⟨dst,.call ⟨.builtin .cap,xs.toArray,ts⟩,ty,pos,aft,gd⟩ ν n ρ A K=Ay (GA ρ xs) fun vs=>Js P (Builtin.cap_ ts ty vs.toArray) A ν n fun ν n u A=>BJ nt dst u ρ fun ρ'=>K ν n ρ' A:=rfl
end
section
variable (P:Program) (imp:Imp) (ν:Nu) (n:Nat) (A:AH) (K:Nu→Nat→Value→AH→Prop) (t:TypeId)
theorem Lz(g:FuncId)(fs vs cs:List Value):OX P imp (.func (.func g) fs.toArray cs.toArray) vs A ν n K=Th P imp g (fs++vs++cs).toArray A ν n K:=by
 unfold OX;simp
noncomputable def SP(X:Xp)(g:FuncId)(args:Array Value)(b:Prop)(K:Nu→Nat→Value→AH→Prop)(_t:Tg (X,K):=()):Prop:=(b→JF X P g args A fun v A'=> ∀ν',DN ν' A'→K ν' 0 v A')∧(¬b→Ay (B5 P g args A) fun v=>K ν n v A)
theorem WJ(l:List Nat)(X:Xp)(g:FuncId)(args:Array Value):Th P ⟨l,X⟩ g args A ν n K=SP P ν n A X g args (g∈l) K:=by
 unfold Th SP
 by_cases h:g∈l<;>simp[h]
theorem LO(X:Xp)(g:FuncId)(args:Array Value):SP P ν n A X g args False K=Ay (B5 P g args A) fun v=>K ν n v A:=by simp[SP]
def G8(P:Program)(g:FuncId)(args:Array Value)(A:AH)(K:Nu→Nat→Value→AH→Prop)(_t:Tg K:=()):Prop:=AM P g args A fun v A'=> ∀ν',DN ν' A'→K ν' 0 v A'
theorem PB(g:FuncId)(args:Array Value):SP P ν n A none g args True K=G8 P g args A K:=by simp[SP,G8,JF]
def Lq(P:Program)(g:FuncId)(args:Array Value)(A:AH)(X:List PanicEntry→AH→Prop)(K:Nu→Nat→Value→AH→Prop)(_t:Tg (X,K):=()):Prop:=AZ P g args A X fun v A'=> ∀ν',DN ν' A'→K ν' 0 v A'
theorem Mn(X:List PanicEntry→AH→Prop)(g:FuncId)(args:Array Value):SP P ν n A (some X) g args True K=Lq P g args A X K:=by simp[SP,Lq,JF]
theorem QO(x:ByteArray)(K:Value→Prop):G0 P t (.string x) A K=XT (P.underlying t) x K:=rfl
theorem TH(p:Option Addr)(i j:Nat)(K:Value→Prop):G0 P t (.slice p i j) A K=Ay (O5 P t) fun _=>K (.int .i64 i):=rfl
theorem R7(r:Nat)(K:Value→Prop):G0 P t (.map (some r)) A K=SG (P.underlying t) (AA A r) K:=rfl
theorem PZ(K:Value→Prop):G0 P t (.map none) A K=bR (P.underlying t) K:=by
 unfold G0 GM bR;rfl
@[congr] theorem cnvN_congr {P:Program} {s d:TypeId} {us us' ud ud':Option TypeDesc} {x:Value} {A:AH} {ν:Nu} {n:Nat} {K:Nu→Nat→Value→AH→Prop} (h1:us=us') (h2:ud=ud'):KA P s d us ud x A ν n K=KA P s d us' ud' x A ν n K:=by rw[h1,h2]
theorem H0(s d:TypeId)(k k':IntKind)(a:Int)(ds:TypeDesc):KA P s d (some ds) (some (.int k)) (.int k' a) A ν n K=K ν n (.int k (k.wrap a)) A:=by cases ds<;>rfl
theorem Gw(s d:TypeId)(k k':IntKind)(a:Int):KA P s d (some (.int k)) (some .string) (.int k' a) A ν n K=K ν n (.string (Utf8.encode a)) A:=rfl
theorem Hv(s d:TypeId)(x:ByteArray):KA P s d (some .string) (some .string) (.string x) A ν n K=K ν n (.string x) A:=rfl
theorem F0(s d e:TypeId)(x:Value):KA P s d (some .string) (some (.slice e)) x A ν n K=Ef P (convert s d x) A ν n K:=rfl
theorem EZ(s d e:TypeId)(x:Value):KA P s d (some (.slice e)) (some .string) x A ν n K=Js P (convert s d x) A ν n K:=rfl
theorem Wf(s:Sem Value):Js P s A ν n K=Ay (F8 P s A) fun v=>K ν n v A:=rfl
theorem LY(x:ByteArray):J1 P t (.string x) A ν n K=Bf (P.underlying t=some .string) (K ν (n+1) (.pointer (some ⟨ν n,0,none⟩)) ((ν n,.stringIter x 0)::A)):=rfl
theorem OZ(r:Nat):PY P (.pointer (some ⟨r,0,none⟩)) true t A ν n K=Lo r (AA A r) A ν n K:=rfl
@[congr] theorem nextO_congr {r:Nat} {o o':Option Obj} {A:AH} {ν:Nu} {n:Nat} {K:Nu→Nat→Value→AH→Prop} (h:o=o'):Lo r o A ν n K=Lo r o' A ν n K:=by rw[h]
theorem PD(r pos:Nat)(s:ByteArray):Lo r (some (.stringIter s pos)) A ν n K=Jx (decide (pos<s.size)) (K ν n (.tuple #[.bool true,.int .i64 pos,.int .i32 (Utf8.decode s pos).1]) (Fy A r (.stringIter s (pos+(Utf8.decode s pos).2)))) (K ν n (.tuple #[.bool false]) A):=rfl
end
section
variable (P:Program) (A:AH) (b x o n:Nat) (u:Obj)
theorem S7:AA [] x=none:=rfl
theorem Nf:AA ((b,u)::A) x=if b=x then some u else AA A x:=rfl
theorem TO:Fy [] x u=[]:=rfl
theorem OQ(u':Obj):Fy ((b,u)::A) x u'=if b=x then(b,u')::A else(b,u)::Fy A x u':=rfl
def qz(s:Option (Bool×Nat))(ob:Option Obj)(o:Nat):Option Value:=match s with
 |some (true,n)=>Gj (D0 ob o n)
 |some (false,_)=>MN ob o
 |none=>none
theorem PK(t:TypeId):Ep P A t ⟨b,o,none⟩=qz (Cw P t) (AA A b) o:=by
 unfold Ep rC qz
 cases Cw P t with
 |none=>rfl
 |some s=>obtain⟨q,n⟩:=s;cases q<;>rfl
theorem XP(ob:Option Obj):qz (some (true,n)) ob o=Gj (D0 ob o n):=rfl
theorem U6(ob:Option Obj):qz (some (false,n)) ob o=MN ob o:=rfl
theorem YW(vs:List Value):oK A ⟨b,o,none⟩ vs=mY A b (AA A b) o vs:=by unfold oK;simp
theorem Oo(c:Array Value)(e:TypeId)(vs:List Value):mY A b (some (.cells c e (0,0))) o vs=if o+vs.length≤c.size∧Ds vs=true then some (Fy A b (.cells (Cr c o vs) e))else none:=by simp[mY]
theorem NM(ρ:Ba):F7 P ρ A []=some []:=rfl
theorem M0(ρ:Ba)(r:ResultVar)(l:List ResultVar):F7 P ρ A (r::l)=Dy (Mk P ρ A r) (F7 P ρ A l):=rfl
theorem OO(ρ:Ba)(t:Nat):Mk P ρ A (.tmp t)=get ρ t:=rfl
def qs(P:Program)(A:AH)(ty:TypeId)(o:Option Addr):Option Value:=match o with|some a=>Ep P A ty a|none=>none
theorem Ls(ρ:Ba)(s:Nat)(t:TypeId):Mk P ρ A (.cell s t)=qs P A t (O4 (get ρ s)):=rfl
theorem PU(t:TypeId)(a:Addr):qs P A t (some a)=Ep P A t a:=rfl
end
theorem XQ(k k':IntKind)(a b:Int)(K:IntKind→Int→Int→Prop):oy (.int k a) (.int k' b) K=K k a b:=rfl
theorem Rc(x y:TypeId)(K:Value→Prop):bR (some (.map x y)) K=K (.int .i64 0):=rfl
theorem DN.nu{ν:Nu}{A:AH}(f:DN ν A)(i j:Nat):(ν i=ν j)=(i=j):=propext ⟨f.1 i j,fun e=>by rw[e]⟩
theorem DN.ne{ν:Nu}{A:AH}(f:DN ν A){b:Nat}(h:AA A b≠none)(i:Nat):((b=ν i)=False)∧((ν i=b)=False):=
 ⟨eq_false fun e=>h (by rw[e];exact f.2 i),eq_false fun e=>h (by rw[←e];exact f.2 i)⟩
theorem Qx(A:AH):SubA [] A=True:=eq_true (SubA.nil A)
theorem R5(A:AH):Ty [] A=True:=rfl
theorem Pa(b:Nat)(o:Obj)(A B:AH):Ty ((b,o)::A) B=(AA B b=some o∧Ty A B):=rfl
theorem QP: ∀{A:AH} {b:Nat},b∈A.map (fun p=>p.1)→AA A b≠none
 | (x,o)::A,b,h=>by
  simp only[AA]
  split
  ·simp
  ·rename_i hne
   rcases List.mem_cons.1 h with rfl|h
   ·exact absurd rfl hne
   ·exact QP h
theorem DN.mem{ν:Nu}{A:AH}(f:DN ν A){b:Nat}(h:b∈A.map (fun p=>p.1))(i:Nat):((b=ν i)=False)∧((ν i=b)=False):=f.ne (QP h) i
theorem By(A B:AH)(b:Nat):AA (A++B) b=match AA A b with|some o=>some o|none=>AA B b:=by
 induction A with
 |nil=>rfl
 |cons p A ih=>
  simp only[List.cons_append,AA]
  split
  ·rfl
  ·exact ih
theorem AM.frame{P:Program}{g:FuncId}{args:Array Value}{A A0:AH}{K0 K:Value→AH→Prop}(hc:AM P g args A0 K0)(hs:SubA A0 A)
  (hk: ∀v B,K0 v B→(∀b,AA A0 b≠none→AA B b≠none)∧((∀b,AA B b≠none→AA A0 b=none→AA A b=none)→K v (B++A))):AM P g args A K:=fun h hA=>
 (hc h (hA.sub hs)).mono fun e h' ⟨v,B,h1,h2,h3,h4⟩=>by
  obtain⟨k1,k2⟩:=hk v B h4
  refine⟨v,B++A,h1,fun b o hl=> ?_,⟨h3.1,fun b hb hl=> ?_⟩,k2 fun b hb hn=> ?_⟩
  ·rw[By]at hl
   split at hl
   ·rename_i u hu;cases hl;exact h2 b _ hu
   ·rename_i hu
    have h0:AA A0 b=none:=by
     cases ho:AA A0 b with
     |none=>rfl
     |some u=>exact absurd hu (k1 b (by rw[ho];simp))
    have hlt:=hA.lt hl
    rw[(h3.2 b hlt h0).1]
    exact hA b o hl
  ·have h0:=hs.none hl
   refine⟨(h3.2 b hb h0).1, ?_⟩
   rw[By,(h3.2 b hb h0).2]
   exact hl
  ·cases ho:AA A b with
   |none=>rfl
   |some u=>exact absurd (h3.2 b (hA.lt ho) hn).2 hb
theorem Ah.weak[dd:DefD]{c:CxA}{body:Code}{k:List It}{ρ ρ':Ba}{A A':AH}(hl: @Ah dd c body k ρ A ())(hs:BW ρ ρ')(ha:SubA A A'): @Ah dd c body k ρ' A' ():=fun A0 h0 h hA kp=>
 Bh.weak (hl A0 h0 h (hA.sub ha) (kp.sub ha)) hs
section
variable (P:Program) (n:Nat) (sp:Bool) (all:List Oper) (m:Nat) (ρ:Ba) (A:AH) (K:Ba→Prop)
variable (dst:Option Nat) (ty:TypeId) (pos:String) (aft:Array Edge) (gd:Option (Nat×Bool)) (rest:List Oper)
theorem aa(cur:Option (Nat×Bool)):B6 P n sp all A (m+1) cur [] ρ K=K ρ:=rfl
theorem S0(op:Op):B6 P n sp all A (m+1) none (⟨dst,op,ty,pos,aft,none⟩::rest) ρ K=
  B4 P n ⟨dst,op,ty,pos,aft,none⟩ ρ A (fun ρ'=>B6 P n sp all A m none rest ρ' K):=by simp[B6]
theorem jW(op:Op)(g:Nat×Bool):B6 P n sp all A (m+1) (some g) (⟨dst,op,ty,pos,aft,some g⟩::rest) ρ K=
  B4 P n ⟨dst,op,ty,pos,aft,some g⟩ ρ A (fun ρ'=>B6 P n sp all A m (some g) rest ρ' K):=by simp[B6]
noncomputable def Pt(cur:Option (Nat×Bool))(j:Nat)(want:Bool)(g after:List Oper)(s:Nat)(b:Bool)(pure:Bool):Prop:=
 match pure,after with
 |true,p::after'=>match Cs want s p.op with
  |some y=>B6 P n sp all A m (some (j,want)) g ρ (fun ρ'=>Ay (BE ρ' y) fun c=>C9 n p.dst want b c (DR g ρ) fun ρ''=>B6 P n sp all A m cur after' ρ'' K)
  |none=>False
 |_,after=>Jx (b==want) (B6 P n sp all A m (some (j,want)) g ((s,some (.bool want))::ρ) (fun ρ'=>B6 P n sp all A m cur after ρ' K)) (B6 P n sp all A m cur after (DR g ((s,some (.bool (!want)))::ρ)) K)
@[congr] theorem gpQA_congr {P:Program} {n:Nat} {sp:Bool} {all:List Oper} {m:Nat} {ρ:Ba} {A:AH} {K:Ba→Prop} {cur:Option (Nat×Bool)} {j:Nat} {want:Bool} {g g' after after':List Oper} {s:Nat} {b pu pu':Bool} (h1:g=g') (h2:after=after') (h3:pu=pu'):
  Pt P n sp all m ρ A K cur j want g after s b pu=Pt P n sp all m ρ A K cur j want g' after' s b pu':=by rw[h1,h2,h3]
noncomputable def ng(cur:Option (Nat×Bool))(j:Nat)(want:Bool)(g after:List Oper)(s:Nat)(v:Value):Prop:=
 match v with| .bool b=>Bf (Cn all s j want [] g=true) (Pt P n sp all m ρ A K cur j want g after s b (FF sp g))|_=>False
theorem Nj(cur:Option (Nat×Bool))(j:Nat)(want:Bool)(g after:List Oper)(s:Nat)(b:Bool):ng P n sp all m ρ A K cur j want g after s (.bool b)=
  Bf (Cn all s j want [] g=true) (Pt P n sp all m ρ A K cur j want g after s b (FF sp g)):=rfl
theorem T4(op:Op)(cur:Option (Nat×Bool))(j:Nat)(want:Bool)(hne: ¬some (j,want)=cur):B6 P n sp all A (m+1) cur (⟨dst,op,ty,pos,aft,some (j,want)⟩::rest) ρ K=
  Ay (Cj all j) fun s=>Ay (get ρ s) fun v=>ng P n sp all m ρ A K cur j want
   (⟨dst,op,ty,pos,aft,some (j,want)⟩::Bl cur rest) (CJ cur rest) s v:=by
 have h1:Bl cur (⟨dst,op,ty,pos,aft,some (j,want)⟩::rest)=⟨dst,op,ty,pos,aft,some (j,want)⟩::Bl cur rest:=by simp[Bl,hne]
 have h2:CJ cur (⟨dst,op,ty,pos,aft,some (j,want)⟩::rest)=CJ cur rest:=by simp[CJ,hne]
 rw[B6,if_neg hne,h1,h2]
 congr 1
theorem Vp(op:Op)(j:Nat)(want:Bool):B6 P n sp all A (m+1) none (⟨dst,op,ty,pos,aft,some (j,want)⟩::rest) ρ K=
  Ay (Cj all j) fun s=>Ay (get ρ s) fun v=>ng P n sp all m ρ A K none j want
   (⟨dst,op,ty,pos,aft,some (j,want)⟩::Bl none rest) (CJ none rest) s v:=T4 P n sp all m ρ A K dst ty pos aft rest op none j want (by simp)
theorem Vy(cur:Option (Nat×Bool))(j:Nat)(want:Bool)(g after:List Oper)(s:Nat)(b:Bool):Pt P n sp all m ρ A K cur j want g after s b false=
  Jx (b==want) (B6 P n sp all A m (some (j,want)) g ((s,some (.bool want))::ρ) (fun ρ'=>B6 P n sp all A m cur after ρ' K)) (B6 P n sp all A m cur after (DR g ((s,some (.bool (!want)))::ρ)) K):=rfl
theorem WM(cur:Option (Nat×Bool))(j:Nat)(g after:List Oper)(s:Nat)(b:Bool)(y:Operand):Pt P n sp all m ρ A K cur j false g (⟨dst,.pick (.tmp s) (.const (.bool true)) y,ty,pos,aft,gd⟩::after) s b true=
  B6 P n sp all A m (some (j,false)) g ρ (fun ρ'=>Ay (BE ρ' y) fun c=>C9 n dst false b c (DR g ρ) fun ρ''=>B6 P n sp all A m cur after ρ'' K):=by simp[Pt,Cs]
theorem RE(cur:Option (Nat×Bool))(j:Nat)(g after:List Oper)(s:Nat)(b:Bool)(y:Operand):Pt P n sp all m ρ A K cur j true g (⟨dst,.pick (.tmp s) y (.const (.bool false)),ty,pos,aft,gd⟩::after) s b true=
  B6 P n sp all A m (some (j,true)) g ρ (fun ρ'=>Ay (BE ρ' y) fun c=>C9 n dst true b c (DR g ρ) fun ρ''=>B6 P n sp all A m cur after ρ'' K):=by simp[Pt,Cs]
theorem Rw(x:Operand):B4 P n ⟨dst,.move x,ty,pos,aft,gd⟩ ρ A K=BZ P n ⟨dst,.move x,ty,pos,aft,gd⟩ ρ #[] (fun ρ' _=>K ρ') fun _ _=>False:=Bv rfl
theorem Mz(x:Operand):B4 P n ⟨dst,.assign x,ty,pos,aft,gd⟩ ρ A K=BZ P n ⟨dst,.assign x,ty,pos,aft,gd⟩ ρ #[] (fun ρ' _=>K ρ') fun _ _=>False:=Bv rfl
theorem Qh(x a b:Operand):B4 P n ⟨dst,.pick x a b,ty,pos,aft,gd⟩ ρ A K=BZ P n ⟨dst,.pick x a b,ty,pos,aft,gd⟩ ρ #[] (fun ρ' _=>K ρ') fun _ _=>False:=Bv rfl
theorem JA(x:Operand):B4 P n ⟨dst,.nilCheck x,ty,pos,aft,gd⟩ ρ A K=BZ P n ⟨dst,.nilCheck x,ty,pos,aft,gd⟩ ρ #[] (fun ρ' _=>K ρ') fun _ _=>False:=Bv rfl
theorem OC(op:BinOp)(t:TypeId)(x y:Operand)(t2:TypeId):B4 P n ⟨dst,.binOp op t x y t2,ty,pos,aft,gd⟩ ρ A K=BZ P n ⟨dst,.binOp op t x y t2,ty,pos,aft,gd⟩ ρ #[] (fun ρ' _=>K ρ') fun _ _=>False:=Bv rfl
theorem SO(op:UnOp)(t:TypeId)(x:Operand):B4 P n ⟨dst,.unOp op t x,ty,pos,aft,gd⟩ ρ A K=BZ P n ⟨dst,.unOp op t x,ty,pos,aft,gd⟩ ρ #[] (fun ρ' _=>K ρ') fun _ _=>False:=Bv rfl
theorem FJ(t:TypeId)(x:Operand):B4 P n ⟨dst,.makeInterface t x,ty,pos,aft,gd⟩ ρ A K=BZ P n ⟨dst,.makeInterface t x,ty,pos,aft,gd⟩ ρ #[] (fun ρ' _=>K ρ') fun _ _=>False:=Bv rfl
theorem HF(t:TypeId)(x:Operand)(i:Nat):B4 P n ⟨dst,.fieldAddr t x i,ty,pos,aft,gd⟩ ρ A K=BZ P n ⟨dst,.fieldAddr t x i,ty,pos,aft,gd⟩ ρ #[] (fun ρ' _=>K ρ') fun _ _=>False:=Bv rfl
theorem N4(t:TypeId)(x:Operand)(i:Nat):B4 P n ⟨dst,.field t x i,ty,pos,aft,gd⟩ ρ A K=BZ P n ⟨dst,.field t x i,ty,pos,aft,gd⟩ ρ #[] (fun ρ' _=>K ρ') fun _ _=>False:=Bv rfl
theorem G5(t:TypeId)(x i:Operand):B4 P n ⟨dst,.indexAddr t x i,ty,pos,aft,gd⟩ ρ A K=BZ P n ⟨dst,.indexAddr t x i,ty,pos,aft,gd⟩ ρ #[] (fun ρ' _=>K ρ') fun _ _=>False:=Bv rfl
theorem PM(t:TypeId)(x i:Operand):B4 P n ⟨dst,.index t x i,ty,pos,aft,gd⟩ ρ A K=BZ P n ⟨dst,.index t x i,ty,pos,aft,gd⟩ ρ #[] (fun ρ' _=>K ρ') fun _ _=>False:=Bv rfl
theorem KL(x:Operand)(i:Nat):B4 P n ⟨dst,.extract x i,ty,pos,aft,gd⟩ ρ A K=BZ P n ⟨dst,.extract x i,ty,pos,aft,gd⟩ ρ #[] (fun ρ' _=>K ρ') fun _ _=>False:=Bv rfl
theorem Np(t:TypeId)(ps:List (Nat×Operand)):B4 P n ⟨dst,.build t ps.toArray,ty,pos,aft,gd⟩ ρ A K=BZ P n ⟨dst,.build t ps.toArray,ty,pos,aft,gd⟩ ρ #[] (fun ρ' _=>K ρ') fun _ _=>False:=Bv rfl
theorem N1(t:TypeId)(x:Operand)(lo hi:Option Operand):B4 P n ⟨dst,.slice t x lo hi none,ty,pos,aft,gd⟩ ρ A K=BZ P n ⟨dst,.slice t x lo hi none,ty,pos,aft,gd⟩ ρ #[] (fun ρ' _=>K ρ') fun _ _=>False:=Bv rfl
theorem LM(t:TypeId)(x m:Operand)(lo hi:Option Operand):B4 P n ⟨dst,.slice t x lo hi (some m),ty,pos,aft,gd⟩ ρ A K=Ay (BE ρ x) fun v=>Ay (Ea ρ lo) fun l=>Ay (Ea ρ hi) fun r=>Ay (BE ρ m) fun mv=>NB P t v l r mv fun u=>BJ n dst u ρ fun ρ'=>K ρ':=Bv rfl
theorem TW(f:Operand)(xs:List Operand)(ts:Array TypeId):B4 P n ⟨dst,.call ⟨.value f,xs.toArray,ts⟩,ty,pos,aft,gd⟩ ρ A K=Ay (BE ρ f) fun fv=>Ay (GA ρ xs) fun vs=>P6 P fv vs A fun u=>BJ n dst u ρ K:=rfl
theorem Q4(t:TypeId)(x:Operand):B4 P n ⟨dst,.load t x,ty,pos,aft,gd⟩ ρ A K=Ay (BE ρ x) fun p=>Ay (DW p) fun a=>Ay (Ep P A t a) fun u=>BJ n dst u ρ K:=rfl
theorem Kw(s d:TypeId)(x:Operand):B4 P n ⟨dst,.convert s d x,ty,pos,aft,gd⟩ ρ A K=Ay (BE ρ x) fun v=>JD P s d (P.underlying s) (P.underlying d) v A fun u=>BJ n dst u ρ K:=rfl
theorem My(t:TypeId)(x i:Operand)(ok:Bool):B4 P n ⟨dst,.lookup t x i ok,ty,pos,aft,gd⟩ ρ A K=Ay (BE ρ x) fun m=>Ay (BE ρ i) fun k=>Ay (F8 P (Instr.lookup t m k ok) A) fun u=>BJ n dst u ρ K:=rfl
theorem Uj(x:Operand)(t:TypeId):B4 P n ⟨dst,.call ⟨.builtin .len,#[x],#[t]⟩,ty,pos,aft,gd⟩ ρ A K=Ay (BE ρ x) fun v=>G0 P t v A fun u=>BJ n dst u ρ K:=by
 unfold B4
 simp only[GA]
 cases BE ρ x<;>simp[Ay,Dy]
theorem Kr(t:TypeId)(x i:Operand)(ok:Bool):DE sp (.lookup t x i ok)=false:=rfl
theorem KF(g:FuncId)(fs vs cs:List Value)(K:Value→Prop):P6 P (.func (.func g) fs.toArray cs.toArray) vs A K=Bf (AD P g=true) (Ay (B5 P g (fs++vs++cs).toArray A) K):=by
 unfold P6;simp
@[congr] theorem cnvQA_congr {P:Program} {s d:TypeId} {us us' ud ud':Option TypeDesc} {x:Value} {A:AH} {K:Value→Prop} (h1:us=us') (h2:ud=ud'):JD P s d us ud x A K=JD P s d us' ud' x A K:=by rw[h1,h2]
theorem OW(s d:TypeId)(k k':IntKind)(a:Int)(ds:TypeDesc)(K:Value→Prop):JD P s d (some ds) (some (.int k)) (.int k' a) A K=K (.int k (k.wrap a)):=by cases ds<;>rfl
theorem Oi(s d:TypeId)(ds:TypeDesc)(x:Value)(K:Value→Prop):JD P s d (some ds) (some .string) x A K=Ay (F8 P (convert s d x) A) K:=by cases ds<;>rfl
end
theorem LH{P:Program}{g:FuncId}{args:Array Value}{A:AH}{v:Value}(hi:P.inits.idxOf? g=none)(hc:AD P g=true)(hp: ∀h,CallsH P g args h fun e h'=>e=.returned v∧Grew h h'):B5 P g args A=some v:=
 Bk ⟨fun _=>hi,fun h _=>by unfold E4;rw[if_pos hc];exact hp h⟩
theorem C4{P:Program}{g:FuncId}{args:Array Value}{A:AH}{v:Value}(hi:P.inits.idxOf? g=none)(hc:AD P g=true)(hp: ∀h,CallsH P g args h fun e h'=>e=.returned v∧h'=h):B5 P g args A=some v:=
 LH hi hc fun h=>(hp h).mono0 fun e h' ⟨h1,h2⟩=>⟨h1,by rw[h2];exact Grew.refl h⟩
@[congr] theorem opSG_congr {P:Program} {imp:Imp} {nt:Nat} {all:List Oper} {As:AH} {m:Nat} {ν:Nu} {n:Nat} {ρ:Ba} {A:AH} {K:AH→Nu→Nat→Ba→AH→Prop} {o o':Option Oper} (e:o=o'):EF P imp nt all As m ν n ρ A K o=EF P imp nt all As m ν n ρ A K o':=by rw[e]
noncomputable def R8(P:Program)(imp:Imp)(nt:Nat)(As:AH)(m:Nat)(ν:Nu)(n:Nat)(ρ:Ba)(A:AH)(K:AH→Nu→Nat→Ba→AH→Prop)(o:Oper)(b:Bool):Prop:=match b with
 |true=>B4 P nt o ρ As fun ρ'=>K As ν n ρ' A
 |false=>Bz P imp nt o ν n ρ A fun ν n ρ' A'=>En As A' m fun As'=>K As' ν n ρ' A'
@[congr] theorem opSB_congr {P:Program} {imp:Imp} {nt:Nat} {As:AH} {m:Nat} {ν:Nu} {n:Nat} {ρ:Ba} {A:AH} {K:AH→Nu→Nat→Ba→AH→Prop} {o:Oper} {b b':Bool} (e:b=b'):R8 P imp nt As m ν n ρ A K o b=R8 P imp nt As m ν n ρ A K o b':=by rw[e]
section
variable (P:Program) (imp:Imp) (nt:Nat) (all:List Oper) (As:AH) (m:Nat) (ν:Nu) (n:Nat) (ρ:Ba) (A:AH) (K:AH→Nu→Nat→Ba→AH→Prop) (K0:Nu→Nat→Ba→AH→Prop)
variable (dst:Option Nat) (ty:TypeId) (pos:String) (aft:Array Edge) (gd:Option (Nat×Bool))
theorem cQ:DM P imp nt all [] As ν n ρ A K0=K0 ν n ρ A:=rfl
theorem Va(i:Nat)(l:List (Nat×Nat)):DM P imp nt all ((i,m)::l) As ν n ρ A K0=EF P imp nt all As m ν n ρ A (fun As ν n ρ' A=>DM P imp nt all l As ν n ρ' A K0) all[i]? :=rfl
theorem PH(op:Op):EF P imp nt all As m ν n ρ A K (some ⟨dst,op,ty,pos,aft,none⟩)=R8 P imp nt As m ν n ρ A K ⟨dst,op,ty,pos,aft,none⟩ (Bt imp op):=by
 simp only[EF,HP,R8];cases Bt imp op<;>simp
theorem OG(op:Op)(j:Nat)(want:Bool):EF P imp nt all As m ν n ρ A K (some ⟨dst,op,ty,pos,aft,some (j,want)⟩)=Ay (Cj all j) fun s=>Ay (get ρ s) fun v=>eV want v (R8 P imp nt As m ν n ρ A K ⟨dst,op,ty,pos,aft,some (j,want)⟩ (Bt imp op)) (BJ nt dst undef ρ fun ρ'=>K As ν n ρ' A):=by
 simp only[EF,HP,R8];cases Bt imp op<;>simp
theorem O0(o:Oper):R8 P imp nt As m ν n ρ A K o true=B4 P nt o ρ As fun ρ'=>K As ν n ρ' A:=rfl
theorem Mq(o:Oper):R8 P imp nt As m ν n ρ A K o false=Bz P imp nt o ν n ρ A fun ν n ρ' A'=>En As A' m fun As'=>K As' ν n ρ' A':=rfl
theorem XE(A':AH)(K:AH→Prop):En As A' 0 K=Bf (SubA As A') (K As):=rfl
theorem U4(A':AH)(K:AH→Prop):En As A' 1 K=Bf (SubA As A') (K A'):=rfl
theorem Oq{b:Nat}{o:Obj}{A B:AH}(h:AA B b=some o)(k:SubA A B):SubA ((b,o)::A) B:=fun x u hl=>by
 simp only[AA]at hl
 split at hl
 ·rename_i e;subst e;cases hl;exact h
 ·exact k x u hl
theorem U0(A':AH)(K:AH→Prop):En As A' 2 K=K A':=rfl
theorem PX(l:List Nat)(X:Xp)(g:Nat)(xs:Array Operand)(ts:Array TypeId):Bt ⟨l,X⟩ (.call ⟨.value (.func g),xs,ts⟩)= !l.contains g:=rfl
theorem M6(x:Operand):Bt imp (.panic x)=false:=rfl
theorem Ok(x:Operand):Bt imp (.move x)=true:=rfl
theorem KH(x:Operand):Bt imp (.assign x)=true:=rfl
theorem Ny(x a b:Operand):Bt imp (.pick x a b)=true:=rfl
theorem L7(t:TypeId)(ps:Array (Nat×Operand)):Bt imp (.build t ps)=true:=rfl
theorem OD(t:TypeId)(x:Operand):Bt imp (.load t x)=true:=rfl
theorem HC(x:Operand):Bt imp (.nilCheck x)=true:=rfl
theorem LQ(op:BinOp)(t:TypeId)(x y:Operand)(t':TypeId):Bt imp (.binOp op t x y t')=true:=rfl
theorem N6(op:UnOp)(t:TypeId)(x:Operand):Bt imp (.unOp op t x)=true:=rfl
theorem Es(t:TypeId)(x:Operand):Bt imp (.makeInterface t x)=true:=rfl
theorem HH(f:Fn)(x y:Array Operand):Bt imp (.makeFunc f x y)=true:=rfl
theorem Gk(t:TypeId)(x:Operand)(i:Nat):Bt imp (.fieldAddr t x i)=true:=rfl
theorem Lf(t:TypeId)(x:Operand)(i:Nat):Bt imp (.field t x i)=true:=rfl
theorem Gi(t:TypeId)(x i:Operand):Bt imp (.indexAddr t x i)=true:=rfl
theorem Lg(t:TypeId)(x i:Operand):Bt imp (.index t x i)=true:=rfl
theorem H2(x:Operand)(i:Nat):Bt imp (.extract x i)=true:=rfl
theorem L2(t:TypeId)(x:Operand)(a b c:Option Operand):Bt imp (.slice t x a b c)=true:=rfl
theorem JZ(s d:TypeId)(x:Operand):Bt imp (.convert s d x)=true:=rfl
theorem KE(t:TypeId)(x i:Operand)(ok:Bool):Bt imp (.lookup t x i ok)=true:=rfl
theorem QM(xs:Array Operand)(ts:Array TypeId):Bt imp (.call ⟨.builtin .len,xs,ts⟩)=true:=rfl
theorem Ks(xs:Array Operand)(ts:Array TypeId):Bt imp (.call ⟨.builtin .append,xs,ts⟩)=false:=rfl
theorem PL(xs:Array Operand)(ts:Array TypeId):Bt imp (.call ⟨.builtin .copy,xs,ts⟩)=false:=rfl
theorem KW(xs:Array Operand)(ts:Array TypeId):Bt imp (.call ⟨.builtin .delete,xs,ts⟩)=false:=rfl
theorem LP(xs:Array Operand)(ts:Array TypeId):Bt imp (.call ⟨.builtin .clear,xs,ts⟩)=false:=rfl
theorem LZ(t:TypeId)(x y:Operand):Bt imp (.store t x y)=false:=rfl
theorem MY(t:TypeId):Bt imp (.alloc t)=false:=rfl
theorem Qs(t:TypeId)(x:Operand):Bt imp (.box t x)=false:=rfl
theorem GC(t:TypeId)(m:Nat)(ps:Array (Nat×Operand)):Bt imp (.buildSlice t m ps)=false:=rfl
theorem Jb(t:TypeId)(x:Option Operand):Bt imp (.makeMap t x)=false:=rfl
theorem Gf(t:TypeId)(x i y:Operand):Bt imp (.mapUpdate t x i y)=false:=rfl
theorem Kd(t:TypeId)(x i y:Operand):Bt imp (.insert t x i y)=false:=rfl
theorem GO(t:TypeId)(l c:Operand):Bt imp (.makeSlice t l c)=false:=rfl
theorem JL(g:Nat):([]:List Nat).contains g=false:=rfl
theorem contains_cons(x g:Nat)(l:List Nat):(x::l).contains g=if g=x then true else l.contains g:=by rw[List.contains_cons];by_cases h:g=x<;>simp[h]
end
theorem pw:type_of% (An @Fp (An @Kx (An @Lv (An @Kv (An @dg (An @d6 (An @jg (An @lG (An @Vt (An @Qv (An @Z7 (An @bW (An @Vs (An @RJ (An @Sf (An @Wz (An @NT (An @MX (An @VL (An @Rx (An @VF (An @Yw (An @TD (An @gJ (An @XS (An @Td (An @Rm (An @Z2 (An @eA (An @WA (An @VV (An @OH (An @Wo (An @KG (An @RG (An @VB (An @Fk (An @JU (An @Qo (An @Jc (An @Ql (An @MB (An @Ri (An @KR (An @TC (An @Nz (An @XD (An @XO (An @W8 (An @Sy (An @Q6 (An @Qn (An @cZ (An @G4 (An @LU (An @Lt (An @Jg (An @Nv (An @Hg (An @Nd (An @RB (An @Uo (An @HK (An @eD (An @bf (An @aD (An @Nl (An @Ui (An @OB (An @Sn (An @cd (An @Lz (An @QO (An @TH (An @R7 (An @PZ (An @H0 (An @Gw (An @Hv (An @F0 (An @EZ (An @LY (An @OZ (An @XQ @Wf)))))))))))))))))))))))))))))))))))))))))))))))))))))))))))))))))))))))))))))))))))):=⟨@Fp,@Kx,@Lv,@Kv,@dg,@d6,@jg,@lG,@Vt,@Qv,@Z7,@bW,@Vs,@RJ,@Sf,@Wz,@NT,@MX,@VL,@Rx,@VF,@Yw,@TD,@gJ,@XS,@Td,@Rm,@Z2,@eA,@WA,@VV,@OH,@Wo,@KG,@RG,@VB,@Fk,@JU,@Qo,@Jc,@Ql,@MB,@Ri,@KR,@TC,@Nz,@XD,@XO,@W8,@Sy,@Q6,@Qn,@cZ,@G4,@LU,@Lt,@Jg,@Nv,@Hg,@Nd,@RB,@Uo,@HK,@eD,@bf,@aD,@Nl,@Ui,@OB,@Sn,@cd,@Lz,@QO,@TH,@R7,@PZ,@H0,@Gw,@Hv,@F0,@EZ,@LY,@OZ,@XQ,@Wf⟩
theorem qV:type_of% (An @RH (An @kK (An @lr (An @lj (An @Lp (An @Kb (An @WJ (An @LO (An @PB (An @Mn (An @Wa (An @H0 (An @Gw (An @Hv (An @F0 (An @EZ (An @PD (An @S7 (An @Nf (An @TO (An @OQ (An @PK (An @XP (An @U6 (An @YW (An @Oo (An @NM (An @M0 (An @OO (An @Ls (An @PU (An @Rc (An @R5 @Pa))))))))))))))))))))))))))))))))):=⟨@RH,@kK,@lr,@lj,@Lp,@Kb,@WJ,@LO,@PB,@Mn,@Wa,@H0,@Gw,@Hv,@F0,@EZ,@PD,@S7,@Nf,@TO,@OQ,@PK,@XP,@U6,@YW,@Oo,@NM,@M0,@OO,@Ls,@PU,@Rc,@R5,@Pa⟩
theorem pY:type_of% (An @cQ (An @Va (An @PH (An @OG (An @XE (An @U4 (An @U0 (An @Qx (An @Oq (An @JV @Gr)))))))))):=⟨@cQ,@Va,@PH,@OG,@XE,@U4,@U0,@Qx,@Oq,@JV,@Gr⟩
theorem oU:type_of% (An @O0 (An @Mq (An @PX (An @M6 (An @Ok (An @KH (An @Ny (An @L7 (An @OD (An @HC (An @LQ (An @N6 (An @Es (An @HH (An @Gk (An @Lf (An @Gi (An @Lg (An @H2 (An @L2 (An @JZ (An @KE (An @QM (An @Ks (An @PL (An @KW (An @LP (An @LZ (An @MY (An @Qs (An @GC (An @Jb (An @Gf (An @Kd (An @GO (An @JL (An @contains_cons (An @JV @Gr)))))))))))))))))))))))))))))))))))))):=⟨@O0,@Mq,@PX,@M6,@Ok,@KH,@Ny,@L7,@OD,@HC,@LQ,@N6,@Es,@HH,@Gk,@Lf,@Gi,@Lg,@H2,@L2,@JZ,@KE,@QM,@Ks,@PL,@KW,@LP,@LZ,@MY,@Qs,@GC,@Jb,@Gf,@Kd,@GO,@JL,@contains_cons,@JV,@Gr⟩
theorem pH:type_of% (An @aa (An @S0 (An @jW (An @Nj (An @T4 (An @Vp (An @Vy (An @WM (An @RE (An @Rw (An @Mz (An @Qh (An @JA (An @OC (An @SO (An @FJ (An @HF (An @N4 (An @G5 (An @PM (An @KL (An @Np (An @N1 (An @LM (An @TW (An @Q4 (An @Kw (An @My (An @Uj @KF))))))))))))))))))))))))))))):=⟨@aa,@S0,@jW,@Nj,@T4,@Vp,@Vy,@WM,@RE,@Rw,@Mz,@Qh,@JA,@OC,@SO,@FJ,@HF,@N4,@G5,@PM,@KL,@Np,@N1,@LM,@TW,@Q4,@Kw,@My,@Uj,@KF⟩
theorem pJ:type_of% (An @Gv (An @F1 (An @Kr (An @OW @Oi)))):=⟨@Gv,@F1,@Kr,@OW,@Oi⟩
end Go.Vm
