/-
Texts without fractions; the grammar of fee tables; lines and spaces between tables.
Conditions: none.
-/
import Derived.Test.YtfphceknmgadgaaGreatDoorQa
import Derived.Test.YtfphceknmgadgaaGreatDoorQg
set_option linter.unusedSimpArgs false
set_option linter.unusedVariables false
namespace Go.Proofs.YtfphceknmgadgaaGreatDoor
open Go.Vm
set_option maxHeartbeats 2000000
set_option maxRecDepth 20000
def Av:List UInt8→Nat
 | []=>0
 |c::l=>if BH c.toNat=true then Av l+1 else 0
theorem EK: ∀l:List UInt8,Av l≤l.length
 | []=>by simp[Av]
 |c::l=>by
  have:=EK l
  simp only[Av,List.length_cons]
  split<;>omega
def LD(l:List UInt8):Option (Nat×Nat):=
 match l.drop (Av l)with
 |c::m=>if c=46 then(if Av m=0 then none else match m.drop (Av m)with
  |d::_=>if d=37 then some (Av l,Av m+1)else none
  | []=>none)else none
 | []=>none
theorem Gt{l:List UInt8}{d k:Nat}(h:LD l=some (d,k)):d=Av l∧d+k<l.length∧2≤k:=by
 unfold LD at h
 split at h
 ·rename_i c m hm
  split at h
  ·split at h
   ·cases h
   ·rename_i hne
    split at h
    ·rename_i x y hy
     split at h
     ·simp only[Option.some.injEq,Prod.mk.injEq]at h
      obtain⟨rfl,rfl⟩:=h
      have h1:=congrArg List.length hm
      have h2:=congrArg List.length hy
      simp only[List.length_drop,List.length_cons]at h1 h2
      exact⟨rfl,by omega,by omega⟩
     ·cases h
    ·cases h
  ·cases h
 ·cases h
def Dz(c:UInt8):List UInt8→Nat
 | []=>0
 |x::l=>if x=c then 1 else Dz c l+1
theorem Jv(c:UInt8): ∀l:List UInt8,Dz c l≤l.length
 | []=>by simp[Dz]
 |x::l=>by
  have:=Jv c l
  simp only[Dz,List.length_cons]
  split<;>omega
def pN:Nat→Bool→List UInt8→List UInt8
 |0,_,l=>l
 |_+1,_,[]=>[]
 | f+1,w,c::r=>
  if c=35 then c::(r.take (Dz 10 r)++pN f false (r.drop (Dz 10 r)))
  else if c=34 then c::(r.take (Dz 34 r)++pN f false (r.drop (Dz 34 r)))
  else if BH c.toNat=true∧w=false then
   match LD (c::r)with
   |some (d,k)=>(c::r).take d++(List.replicate k 32++pN f false ((c::r).drop (d+k)))
   |none=>c::pN f true r
  else c::pN f (CH c.toNat) r
def ZR(l:List UInt8):List UInt8:=pN l.length false l
theorem bu(f:Nat)(w:Bool):pN f w []=[]:=by cases f<;>rfl
theorem Jq: ∀(f:Nat) (w:Bool) (l:List UInt8),(pN f w l).length=l.length
 |0,_,_=>rfl
 |f+1,_,[]=>rfl
 | f+1,w,c::r=>by
  simp only[pN]
  split
  ·have:=Jv 10 r
   rw[List.length_cons,List.length_append,Jq,List.length_take,List.length_drop,List.length_cons];omega
  split
  ·have:=Jv 34 r
   rw[List.length_cons,List.length_append,Jq,List.length_take,List.length_drop,List.length_cons];omega
  split
  ·split
   ·rename_i d k h
    obtain⟨h1,h2,h3⟩:=Gt h
    simp only[List.length_append,List.length_replicate,Jq,List.length_take,List.length_drop,List.length_cons]at h2⊢
    omega
   ·rw[List.length_cons,Jq,List.length_cons]
  ·rw[List.length_cons,Jq,List.length_cons]
theorem Vd(l:List UInt8):(ZR l).length=l.length:=Jq _ _ _
theorem FO: ∀(f g:Nat) (w:Bool) (l:List UInt8),l.length≤f→l.length≤g→pN f w l=pN g w l
 |f,g,w,[],_,_=>by rw[bu,bu]
 |0,_,_,c::r,h,_=>by simp at h
 |_+1,0,_,c::r,_,h=>by simp at h
 | f+1,g+1,w,c::r,hf,hg=>by
  simp only[List.length_cons]at hf hg
  simp only[pN]
  split
  ·rw[FO f g false _ (by rw[List.length_drop];omega) (by rw[List.length_drop];omega)]
  split
  ·rw[FO f g false _ (by rw[List.length_drop];omega) (by rw[List.length_drop];omega)]
  split
  ·split
   ·rename_i d k h
    obtain⟨h1,h2,h3⟩:=Gt h
    rw[FO f g false _ (by rw[List.length_drop,List.length_cons];omega) (by rw[List.length_drop,List.length_cons];omega)]
   ·rw[FO f g true r (by omega) (by omega)]
  ·rw[FO f g _ r (by omega) (by omega)]
def pW(w:Bool)(l:List UInt8):List UInt8:=pN l.length w l
theorem d8(w:Bool):pW w []=[]:=rfl
theorem Jf(w:Bool)(c:UInt8)(r:List UInt8):pW w (c::r)=
  if c=35 then c::(r.take (Dz 10 r)++pW false (r.drop (Dz 10 r)))
  else if c=34 then c::(r.take (Dz 34 r)++pW false (r.drop (Dz 34 r)))
  else if BH c.toNat=true∧w=false then
   match LD (c::r)with
   |some (d,k)=>(c::r).take d++(List.replicate k 32++pW false ((c::r).drop (d+k)))
   |none=>c::pW true r
  else c::pW (CH c.toNat) r:=by
 unfold pW
 rw[List.length_cons,pN]
 split
 ·rw[FO _ _ _ _ (by rw[List.length_drop];omega) (Nat.le_refl _)]
 split
 ·rw[FO _ _ _ _ (by rw[List.length_drop];omega) (Nat.le_refl _)]
 split
 ·split
  ·rename_i d k h
   obtain⟨h1,h2,h3⟩:=Gt h
   rw[FO _ _ _ _ (by rw[List.length_drop,List.length_cons];omega) (Nat.le_refl _)]
  ·rfl
 ·rfl
end Go.Proofs.YtfphceknmgadgaaGreatDoor
namespace Go.Proofs.YtfphceknmgadgaaGreatDoor
open Go.Vm
set_option maxHeartbeats 2000000
set_option maxRecDepth 20000
def cN:Nat→Bool→List UInt8→Bool
 |0,_,_=>true
 |_+1,_,[]=>true
 | f+1,w,c::r=>
  if c=35 then cN f false (r.drop (Dz 10 r))
  else if c=34 then decide (34∈r)&&cN f false (r.drop (Dz 34 r))
  else if BH c.toNat=true∧w=false then
   match LD (c::r)with
   |some (d,k)=>cN f false ((c::r).drop (d+k))
   |none=>cN f true r
  else cN f (CH c.toNat) r
end Go.Proofs.YtfphceknmgadgaaGreatDoor
namespace Go.Proofs.YtfphceknmgadgaaGreatDoor
open Go.Vm
set_option maxHeartbeats 2000000
set_option maxRecDepth 20000
end Go.Proofs.YtfphceknmgadgaaGreatDoor
namespace Go.Proofs.YtfphceknmgadgaaGreatDoor
open Go.Vm
set_option maxHeartbeats 2000000
set_option maxRecDepth 20000
end Go.Proofs.YtfphceknmgadgaaGreatDoor
namespace Go.Proofs.YtfphceknmgadgaaGreatDoor
open Go.Vm
set_option maxHeartbeats 2000000
set_option maxRecDepth 20000
structure Fu where
 nm:ByteArray
 w:Xs
 bps:Int
 fx:Int
 mn:Int
 mx:Int
def D8:ByteArray:=⟨#[102,101,101]⟩
def H8:ByteArray:=⟨#[109,105,110]⟩
def H3:ByteArray:=⟨#[109,97,120]⟩
def Xl(s:ByteArray):Bool:=JS s||decide (s.toList=D8.toList)||decide (s.toList=H8.toList)||decide (s.toList=H3.toList)
def F6(x:LR):Bool:=decide (x.k=1)&& !(Xl x.t)
def G2(nm:ByteArray)(l:List Fu):Bool:=l.any fun u=>decide (u.nm.toList=nm.toList)
def Dq(l:List UInt8):Bool:= !l.isEmpty&&l.all fun c=>BH c.toNat
def CX(l:List UInt8):Nat:=CE l 0
def TY(w:List UInt8):Bool:=Dq w&& !(decide (1<w.length)&&decide (w.head? =some 48))
def Ff(s:List UInt8):Int×Int:=
 if s=[]then(0,1)
 else if s.getLast? ≠some 37 then(0,2)
 else if TY (s.dropLast.take (Av s.dropLast))=false then(0,2)
 else match s.dropLast.drop (Av s.dropLast)with
  | []=>if 3<Av s.dropLast then(0,4)else if 10000<CX (s.dropLast.take (Av s.dropLast))*100 then(0,4)else((CX (s.dropLast.take (Av s.dropLast))*100:Nat),0)
  |c::f=>if c≠46∨2<f.length∨Dq f=false∨f.getLast? =some 48 then(0,2)
   else if 3<Av s.dropLast then(0,4)
   else if 10000<CX (s.dropLast.take (Av s.dropLast))*100+(if f.length=2 then CX f else CX f*10)then(0,4)
   else((CX (s.dropLast.take (Av s.dropLast))*100+(if f.length=2 then CX f else CX f*10):Nat),0)
def X6(s:List UInt8):Option Int:=if(Ff s).2=0 then some (Ff s).1 else none
def DF(L:List LR)(i:Nat):Nat:=(BR L i).a
def FX(x:LR):Bool:=BX x 4 ⟨#[58]⟩
def U3(L:List LR):Nat→Nat→Nat
 |0,i=>i
 |f+1,i=>if(BR L i).k=0∨FX (BR L i)=true then i else U3 L f (i+1)
def exJ(L:List LR)(i:Nat):Nat:=U3 L (L.length - i) i
def opN(L:List LR)(k:Int)(w:ByteArray)(i:Nat):Except Nat (Int×Nat):=
 if BX (BR L i) k w=true then(if(BR L (i+1)).k=2 then .ok ((BR L (i+1)).n,i+2)else .error (i+1))else .ok (0,i)
def GJ(L:List LR)(us:List Fu)(i:Nat):Option (Int×Nat):=
 if 64≤us.length∧BX (BR L i) 1 D8=true then some (3,i)
 else if BX (BR L i) 1 D8=false then some (2,i)
 else if F6 (BR L (i+1))=false then some (2,i+1)
 else if G2 (BR L (i+1)).t us=true then some (7,i+1)
 else if BX (BR L (i+2)) 1 ⟨#[119,104,101,110]⟩=false then some (2,i+2)else none
def fuT(s:ByteArray)(L:List LR)(j:Nat):Except Nat ((Int×Int×Int×Int)×Nat):=
 if FX (BR L j)=false then .error j
 else if(BR L (j+1)).k≠2 then .error (j+1)
 else if BX (BR L (j+2)) 4 ⟨#[37]⟩=false then .error (j+2)
 else match X6 (s.extract (DF L (j+1)) (DF L (j+2)+1)).toList with
  |none=>.error (j+1)
  | some b=>match opN L 4 ⟨#[43]⟩ (j+3)with
   | .error e=>.error e
   | .ok (fx,k)=>match opN L 1 H8 k with
    | .error e=>.error e
    | .ok (mn,k2)=>match opN L 1 H3 k2 with
     | .error e=>.error e
     | .ok (mx,k3)=>if BX (BR L k3) 4 ⟨#[59]⟩=false then .error k3 else .ok ((b,fx,mn,mx),k3+1)
def Pq(pl:ByteArray)(L:List LR)(i:Nat):ByteArray:=pl.extract (DF L (i+3)) (DF L (exJ L (i+3)))
inductive FuE (s pl:ByteArray) (L:List LR) (us:List Fu) (i:Nat):Int→Nat→Prop
 |h {e:Int} {j:Nat}:GJ L us i=some (e,j)→FuE s pl L us i e (DF L j)
 |x {e:Int} {a:Nat} {t:Xs}:GJ L us i=none→PxO (Pq pl L i) e a t→e≠0→FuE s pl L us i e (DF L (i+3)+a)
 |t {t:Xs} {k:Nat}:GJ L us i=none→PxO (Pq pl L i) 0 0 t→fuT s L (exJ L (i+3))=.error k→FuE s pl L us i 2 (DF L k)
inductive FuO (s pl:ByteArray) (L:List LR) (us:List Fu) (i:Nat):Fu→Nat→Prop
 |ok {t:Xs} {b fx mn mx:Int} {k:Nat}:GJ L us i=none→PxO (Pq pl L i) 0 0 t→fuT s L (exJ L (i+3))=.ok ((b,fx,mn,mx),k)→FuO s pl L us i ⟨(BR L (i+1)).t,t,b,fx,mn,mx⟩ k
inductive FlO (s pl:ByteArray) (L:List LR):List Fu→Nat→List Fu→Nat→Prop
 |fin {us:List Fu} {i:Nat}:(BR L i).k=0→FlO s pl L us i us i
 |step {us vs:List Fu} {u:Fu} {i j k:Nat}:(BR L i).k≠0→FuO s pl L us i u j→FlO s pl L (us++[u]) j vs k→FlO s pl L us i vs k
inductive FlE (s pl:ByteArray) (L:List LR):List Fu→Nat→Int→Nat→Prop
 |err {us:List Fu} {e:Int} {i a:Nat}:(BR L i).k≠0→FuE s pl L us i e a→FlE s pl L us i e a
 |step {us:List Fu} {u:Fu} {e:Int} {i j a:Nat}:(BR L i).k≠0→FuO s pl L us i u j→FlE s pl L (us++[u]) j e a→FlE s pl L us i e a
def Cc(s:ByteArray):ByteArray:=bs (ZR s.toList)
inductive PfO (s:ByteArray):Int→Nat→List Fu→Prop
 |scan:(AV (Cc s)).1≠0→PfO s (AV (Cc s)).1 (AV (Cc s)).2.1 []
 |er {e:Int} {a:Nat}:(AV (Cc s)).1=0→FlE s (Cc s) (AV (Cc s)).2.2 [] 0 e a→PfO s e a []
 |ok {us:List Fu} {j:Nat}:(AV (Cc s)).1=0→FlO s (Cc s) (AV (Cc s)).2.2 [] 0 us j→PfO s 0 0 us
section
variable {s pl:ByteArray} {L:List LR}
theorem FuE.ne{us:List Fu}{i a:Nat}{e:Int}(h:FuE s pl L us i e a):e≠0:=by
 cases h with
 |h h1=>
  unfold GJ at h1
  repeat' split at h1
  all_goals first|(cases h1;done)|(cases h1;decide)
 |x _ _ h=>exact h
 |t=>decide
theorem FuE.det{us:List Fu}{i a a':Nat}{e e':Int}(h:FuE s pl L us i e a)(h':FuE s pl L us i e' a'):e=e'∧a=a':=by
 cases h with
 |h h1=>cases h' with
  |h g1=>rw[h1]at g1;cases g1;exact⟨rfl,rfl⟩
  |x g1=>rw[h1]at g1;cases g1
  |t g1=>rw[h1]at g1;cases g1
 |x h1 h2 h3=>cases h' with
  |h g1=>rw[h1]at g1;cases g1
  |x g1 g2=>obtain⟨rfl,rfl,rfl⟩:=h2.det g2;exact⟨rfl,rfl⟩
  |t g1 g2=>obtain⟨rfl,_⟩:=h2.det g2;exact absurd rfl h3
 |t h1 h2 h3=>cases h' with
  |h g1=>rw[h1]at g1;cases g1
  |x g1 g2 g3=>obtain⟨rfl,_⟩:=h2.det g2;exact absurd rfl g3
  |t g1 g2 g3=>rw[h3]at g3;cases g3;exact⟨rfl,rfl⟩
theorem FuE.not{us:List Fu}{i j a:Nat}{e:Int}{u:Fu}(h:FuE s pl L us i e a)(h':FuO s pl L us i u j):False:=by
 cases h' with
 |ok g1 g2 g3=>cases h with
  |h h1=>rw[g1]at h1;cases h1
  |x h1 h2 h3=>obtain⟨rfl,_⟩:=h2.det g2;exact h3 rfl
  |t h1 h2 h3=>rw[g3]at h3;cases h3
theorem FuO.det{us:List Fu}{i j j':Nat}{u u':Fu}(h:FuO s pl L us i u j)(h':FuO s pl L us i u' j'):u=u'∧j=j':=by
 cases h with
 |ok h1 h2 h3=>cases h' with
  |ok g1 g2 g3=>obtain⟨_,_,rfl⟩:=h2.det g2;rw[h3]at g3;cases g3;exact⟨rfl,rfl⟩
theorem FlO.det{us vs:List Fu}{i j:Nat}(h:FlO s pl L us i vs j): ∀{vs':List Fu} {j':Nat},FlO s pl L us i vs' j'→vs=vs'∧j=j':=by
 induction h with
 |fin h=>intro vs' j' h';cases h' with
  |fin=>exact⟨rfl,rfl⟩
  |step g=>exact absurd h g
 | step h1 h2 h3 ih=>intro vs' j' h';cases h' with
  |fin g=>exact absurd g h1
  |step g1 g2 g3=>
   obtain⟨rfl,rfl⟩:=h2.det g2
   exact ih g3
theorem FlE.det{us:List Fu}{i a:Nat}{e:Int}(h:FlE s pl L us i e a): ∀{e':Int} {a':Nat},FlE s pl L us i e' a'→e=e'∧a=a':=by
 induction h with
 |err h1 h2=>intro e' j' h';cases h' with
  |err g1 g2=>exact h2.det g2
  |step g1 g2 g3=>exact absurd g2 fun g=>h2.not g
 | step h1 h2 h3 ih=>intro e' j' h';cases h' with
  |err g1 g2=>exact absurd h2 fun g=>g2.not g
  |step g1 g2 g3=>
   obtain⟨rfl,rfl⟩:=h2.det g2
   exact ih g3
theorem FlE.not{us:List Fu}{i a:Nat}{e:Int}(h:FlE s pl L us i e a): ∀{vs:List Fu} {j':Nat},FlO s pl L us i vs j'→False:=by
 induction h with
 |err h1 h2=>intro vs j' h';cases h' with
  |fin g=>exact h1 g
  |step g1 g2 g3=>exact h2.not g2
 | step h1 h2 h3 ih=>intro vs j' h';cases h' with
  |fin g=>exact h1 g
  |step g1 g2 g3=>
   obtain⟨rfl,rfl⟩:=h2.det g2
   exact ih g3
end
theorem PfO.det{s:ByteArray}{e e':Int}{a a':Nat}{us us':List Fu}(h:PfO s e a us)(h':PfO s e' a' us'):e=e'∧a=a'∧us=us':=by
 cases h with
 |scan h0=>cases h' with
  |scan=>exact⟨rfl,rfl,rfl⟩
  |er g0=>exact absurd g0 h0
  |ok g0=>exact absurd g0 h0
 |er h0 h1=>cases h' with
  |scan g0=>exact absurd h0 g0
  |er g0 g1=>obtain⟨rfl,rfl⟩:=h1.det g1;exact⟨rfl,rfl,rfl⟩
  |ok g0 g1=>exact absurd g1 fun g=>h1.not g
 |ok h0 h1=>cases h' with
  |scan g0=>exact absurd h0 g0
  |er g0 g1=>exact absurd h1 fun g=>g1.not g
  |ok g0 g1=>obtain⟨rfl,rfl⟩:=h1.det g1;exact⟨rfl,rfl,rfl⟩
end Go.Proofs.YtfphceknmgadgaaGreatDoor
namespace Go.Proofs.YtfphceknmgadgaaGreatDoor
open Go.Vm
set_option maxHeartbeats 2000000
set_option maxRecDepth 20000
section
variable {x y:LR} (h:J5 x=J5 y)
include h
theorem H6(k:Int)(t:ByteArray):BX x k t=BX y k t:=by unfold BX;rw[(Dv h).1,(Dv h).2.1]
theorem gz:F6 x=F6 y:=by unfold F6;rw[(Dv h).1,(Dv h).2.1]
theorem T6:FX x=FX y:=H6 h _ _
end
structure Seg(s pl:ByteArray)(L:List LR)(n:Nat)(s' pl':ByteArray)(L':List LR)(d sg:Nat):Prop where
 key: ∀i,i<n→J5 (BR L' (i+d))=J5 (BR L i)
 pos: ∀i,i<n→DF L' (i+d)=DF L i+sg
 pe: ∀a b,pl'.extract (a+sg) (b+sg)=pl.extract a b∨pl.size<b
 tx: ∀a b,s'.extract (a+sg) (b+sg)=s.extract a b∨s.size<b
 lt: ∀i,i<n→DF L i+1≤s.size∧DF L i≤pl.size
 nz: ∀i,(BR L i).k≠0→i<n
 nk: ∀{i},i<n→(BR L i).k≠0
 n0:(BR L n).k=0
 len:n<L.length
 len':n+d≤L'.length
theorem HV{x:LR}{k:Int}{t:ByteArray}(h:BX x k t=true)(hk:k≠0):x.k≠0:=by rw[Bu h];exact hk
theorem QY{L:List LR}: ∀(f i j:Nat),i≤j→j≤i+f→(∀m,i≤m→m<j→(BR L m).k≠0∧FX (BR L m)=false)→((BR L j).k=0∨FX (BR L j)=true)→U3 L f i=j
 |0,i,j,h1,h2,_,_=>by simp only[U3];omega
 | f+1,i,j,h1,h2,h3,h4=>by
  simp only[U3]
  by_cases e:i=j
  ·subst e;rw[if_pos h4]
  ·obtain⟨a,b⟩:=h3 i (Nat.le_refl _) (by omega)
   rw[if_neg (by rw[b];simp[a]),QY f (i+1) j (by omega) (by omega) (fun m h5 h6=>h3 m (by omega) h6) h4]
theorem Px{L:List LR}: ∀(f i:Nat),i≤U3 L f i∧U3 L f i≤i+f∧(∀m,i≤m→m<U3 L f i→(BR L m).k≠0∧FX (BR L m)=false)
 |0,i=>⟨Nat.le_refl _,Nat.le_refl _,fun m h1 h2=>by simp only[U3]at h2;omega⟩
 | f+1,i=>by
  simp only[U3]
  by_cases h:(BR L i).k=0∨FX (BR L i)=true
  ·rw[if_pos h];exact⟨Nat.le_refl _,by omega,fun m h1 h2=>by omega⟩
  ·rw[if_neg h]
   obtain⟨a,b,c⟩:=Px (L:=L) f (i+1)
   refine⟨by omega,by omega,fun m h1 h2=> ?_⟩
   by_cases e:m=i
   ·subst e;exact⟨fun h3=>h (.inl h3),by cases h4:FX (BR L m)with|true=>exact absurd (.inr h4) h|false=>rfl⟩
   ·exact c m (by omega) h2
section
variable {s pl s' pl':ByteArray} {L L':List LR} {n d sg:Nat} (H:Seg s pl L n s' pl' L' d sg)
include H
theorem Seg.opN{k:Int}{w:ByteArray}{i i2:Nat}{v:Int}(h:opN L k w i=.ok (v,i2))(hi:i2<n)(hk:k≠0):i≤i2∧opN L' k w (i+d)=.ok (v,i2+d):=by
 unfold Go.Proofs.YtfphceknmgadgaaGreatDoor.opN at h⊢
 split at h
 ·rename_i h1
  split at h
  ·rename_i h2
   cases h
   have e1:=H.key i (by omega)
   have e2:=H.key (i+1) (by omega)
   rw[show i+d+1=i+1+d by omega,H6 e1,if_pos h1,(Dv e2).1,if_pos h2,(Dv e2).2.2]
   exact⟨by omega,by rw[show i+d+2=i+2+d by omega]⟩
  ·cases h
 ·rename_i h1
  cases h
  have e1:=H.key i hi
  rw[H6 e1,if_neg h1]
  exact⟨Nat.le_refl _,rfl⟩
theorem Seg.fuT{j k:Nat}{q:Int×Int×Int×Int}(h:fuT s L j=.ok (q,k)):j<n∧k≤n∧j<k∧FX (BR L j)=true∧fuT s' L' (j+d)=.ok (q,k+d):=by
 unfold Go.Proofs.YtfphceknmgadgaaGreatDoor.fuT at h⊢
 split at h
 ·cases h
 rename_i h1
 have h1':FX (BR L j)=true:=by simpa using h1
 split at h
 ·cases h
 rename_i h2
 have h2':(BR L (j+1)).k=2:=by simpa using h2
 split at h
 ·cases h
 rename_i h3
 have h3':BX (BR L (j+2)) 4 ⟨#[37]⟩=true:=by simpa using h3
 have n0:=H.nz j (HV h1' (by decide))
 have n1:=H.nz (j+1) (by rw[h2'];decide)
 have n2:=H.nz (j+2) (HV h3' (by decide))
 split at h
 ·cases h
 rename_i b hb
 split at h
 ·cases h
 rename_i fx k1 hk1
 split at h
 ·cases h
 rename_i mn k2 hk2
 split at h
 ·cases h
 rename_i mx k3 hk3
 split at h
 ·cases h
 rename_i h4
 have h4':BX (BR L k3) 4 ⟨#[59]⟩=true:=by simpa using h4
 have n3:=H.nz k3 (HV h4' (by decide))
 cases h
 have m3:k2≤k3:=by
  unfold Go.Proofs.YtfphceknmgadgaaGreatDoor.opN at hk3
  split at hk3
  ·split at hk3
   ·cases hk3;omega
   ·cases hk3
  ·cases hk3;omega
 have m2:k1≤k2:=by
  unfold Go.Proofs.YtfphceknmgadgaaGreatDoor.opN at hk2
  split at hk2
  ·split at hk2
   ·cases hk2;omega
   ·cases hk2
  ·cases hk2;omega
 obtain⟨_,o3⟩:=H.opN hk3 n3 (by decide)
 obtain⟨_,o2⟩:=H.opN hk2 (by omega) (by decide)
 obtain⟨m1,o1⟩:=H.opN hk1 (by omega) (by decide)
 have e0:=H.key j n0
 have e1:=H.key (j+1) n1
 have e2:=H.key (j+2) n2
 have e3:=H.key k3 n3
 have p1:=H.pos (j+1) n1
 have p2:=H.pos (j+2) n2
 have ht:s'.extract (DF L (j+1)+sg) (DF L (j+2)+sg+1)=s.extract (DF L (j+1)) (DF L (j+2)+1):=by
  rcases H.tx (DF L (j+1)) (DF L (j+2)+1)with h|h
  ·rw[←h];congr 1;omega
  ·have:=(H.lt (j+2) n2).1;omega
 refine⟨n0,by omega,by omega,h1', ?_⟩
 rw[show j+d+1=j+1+d by omega,show j+d+2=j+2+d by omega,show j+d+3=j+3+d by omega,T6 e0,if_neg h1,(Dv e1).1,if_neg h2,H6 e2,if_neg h3,p1,p2,ht,hb]
 simp only[o1,o2,o3]
 rw[H6 e3,if_neg h4]
 simp only[Except.ok.injEq,Prod.mk.injEq,true_and]
 omega
theorem Seg.exJ{i j:Nat}(hi:i≤n)(hj:exJ L i=j)(hc:FX (BR L j)=true):i≤j∧j<n∧Go.Proofs.YtfphceknmgadgaaGreatDoor.exJ L' (i+d)=j+d:=by
 have nj:=H.nz j (HV hc (by decide))
 unfold Go.Proofs.YtfphceknmgadgaaGreatDoor.exJ at hj⊢
 obtain⟨a,b,c⟩:=Px (L:=L) (L.length - i) i
 rw[hj]at a b c
 refine⟨a,nj,QY _ _ _ (by omega) (by have:=H.len';omega) (fun m h1 h2=> ?_) (.inr ?_)⟩
 ·obtain⟨q1,q2⟩:=c (m - d) (by omega) (by omega)
  have e:=H.key (m - d) (by omega)
  rw[show m - d+d=m by omega]at e
  rw[(Dv e).1,T6 e];exact⟨q1,q2⟩
 ·rw[T6 (H.key j nj)];exact hc
theorem Seg.rule{us:List Fu}{i k:Nat}{u:Fu}(h:FuO s pl L us i u k):i<k∧k≤n∧us.length<64∧G2 u.nm us=false∧(BR L i).k≠0∧ ∀vs:List Fu,
  (64≤vs.length→FuE s' pl' L' vs (i+d) 3 (DF L' (i+d)))∧(vs.length<64→G2 u.nm vs=true→FuE s' pl' L' vs (i+d) 7 (DF L' (i+1+d)))∧(vs.length<64→G2 u.nm vs=false→FuO s' pl' L' vs (i+d) u (k+d)):=by
 cases h with
 | @ok t b fx mn mx k h1 h2 h3=>
  obtain⟨t1,t2,t3,t4,t5⟩:=H.fuT h3
  unfold Go.Proofs.YtfphceknmgadgaaGreatDoor.GJ at h1
  split at h1
  ·cases h1
  rename_i q1
  split at h1
  ·cases h1
  rename_i q2
  split at h1
  ·cases h1
  rename_i q3
  split at h1
  ·cases h1
  rename_i q4
  split at h1
  ·cases h1
  rename_i q5
  have q2':BX (BR L i) 1 D8=true:=by simpa using q2
  have q3':F6 (BR L (i+1))=true:=by simpa using q3
  have q5':BX (BR L (i+2)) 1 ⟨#[119,104,101,110]⟩=true:=by simpa using q5
  have q4':G2 (BR L (i+1)).t us=false:=by simpa using q4
  have n0:=H.nz i (HV q2' (by decide))
  have n1:=H.nz (i+1) (by unfold F6 at q3';simp only[Bool.and_eq_true,decide_eq_true_eq]at q3';rw[q3'.1];decide)
  have n2:=H.nz (i+2) (HV q5' (by decide))
  obtain⟨x1,x2,x3⟩:=H.exJ (i:=i+3) (by omega) rfl t4
  have e0:=H.key i n0
  have e1:=H.key (i+1) n1
  have e2:=H.key (i+2) n2
  have hlen:us.length<64:=by
   rcases Nat.lt_or_ge us.length 64 with h|h
   ·exact h
   ·exact absurd ⟨h,q2'⟩ q1
  refine⟨by omega,t2,hlen,q4',HV q2' (by decide),fun vs=>⟨fun hv=> ?_,fun hv hh=> ?_,fun hv hh=> ?_⟩⟩
  ·exact .h (by unfold Go.Proofs.YtfphceknmgadgaaGreatDoor.GJ;rw[H6 e0,if_pos ⟨hv,q2'⟩])
  ·refine .h ?_
   unfold Go.Proofs.YtfphceknmgadgaaGreatDoor.GJ
   rw[show i+d+1=i+1+d by omega,show i+d+2=i+2+d by omega,H6 e0,if_neg (fun h=>by omega),if_neg q2,gz e1,if_neg q3,(Dv e1).2.1,if_pos hh]
  ·have hH:GJ L' vs (i+d)=none:=by
    unfold Go.Proofs.YtfphceknmgadgaaGreatDoor.GJ
    rw[show i+d+1=i+1+d by omega,show i+d+2=i+2+d by omega,H6 e0,if_neg (fun h=>by omega),if_neg q2,gz e1,if_neg q3,(Dv e1).2.1,if_neg (by rw[hh];simp),H6 e2,if_neg q5]
   have p3:=H.pos (i+3) (by omega)
   have pj:=H.pos _ x2
   have hS:Pq pl' L' (i+d)=Pq pl L i:=by
    unfold Pq
    rw[show i+d+3=i+3+d by omega,x3,p3,pj]
    rcases H.pe (DF L (i+3)) (DF L (Go.Proofs.YtfphceknmgadgaaGreatDoor.exJ L (i+3)))with h|h
    ·exact h
    ·have:=(H.lt _ x2).2;omega
   have:=FuO.ok (s:=s') (pl:=pl') (L:=L') (us:=vs) (i:=i+d) (t:=t) (b:=b) (fx:=fx) (mn:=mn) (mx:=mx) (k:=k+d) hH (by rw[hS];exact h2) (by rw[show i+d+3=i+3+d by omega,x3];exact t5)
   rw[show i+d+1=i+1+d by omega,(Dv e1).2.1]at this
   exact this
end
def P4(us:List Fu):List Fu→Except Int (List Fu)
 | []=>.ok us
 |v::vs=>if 64≤us.length then .error 3 else if G2 v.nm us=true then .error 7 else P4 (us++[v]) vs
theorem Seg.run{s pl s' pl':ByteArray}{L L':List LR}{n d sg:Nat}(H:Seg s pl L n s' pl' L' d sg){us vs:List Fu}{i k:Nat}(h:FlO s pl L us i vs k):i≤n→ ∃added,vs=us++added∧P4 us added=.ok vs∧ ∀us1,
  (∀ws,P4 us1 added=.ok ws→(∀vs' k',FlO s' pl' L' ws (n+d) vs' k'→FlO s' pl' L' us1 (i+d) vs' k')∧(∀e a,FlE s' pl' L' ws (n+d) e a→FlE s' pl' L' us1 (i+d) e a))∧
  (∀e,P4 us1 added=.error e→ ∃a,FlE s' pl' L' us1 (i+d) e a):=by
 induction h with
 | @fin us i h0=>
  intro hi
  have hin:i=n:=by
   rcases Nat.lt_or_ge i n with h|h
   ·exact absurd h0 (H.nk h)
   ·omega
  subst hin
  refine⟨[],by simp,rfl,fun us1=>⟨fun ws hw=> ?_,fun e he=> ?_⟩⟩
  ·simp only[P4]at hw;cases hw;exact⟨fun _ _ h=>h,fun _ _ h=>h⟩
  ·simp only[P4]at he;cases he
 | @step us vs u i j k h0 h1 h2 ih=>
  intro hi
  obtain⟨r1,r2,r3,r4,r5,r6⟩:=H.rule h1
  obtain⟨added,q1,q2,q3⟩:=ih r2
  have hk':(BR L' (i+d)).k≠0:=by rw[(Dv (H.key i (H.nz i h0))).1];exact h0
  refine⟨u::added,by rw[q1];simp, ?_,fun us1=> ?_⟩
  ·simp only[P4]
   rw[if_neg (by omega),if_neg (by rw[r4];simp),q2]
  obtain⟨c1,c2,c3⟩:=r6 us1
  obtain⟨p1,p2⟩:=q3 (us1++[u])
  refine⟨fun ws hw=> ?_,fun e he=> ?_⟩
  ·simp only[P4]at hw
   split at hw
   ·cases hw
   rename_i hl
   split at hw
   ·cases hw
   rename_i hh
   have hO:=c3 (by omega) (by simpa using hh)
   obtain⟨z1,z2⟩:=p1 ws hw
   exact⟨fun vs' k' hv=>.step hk' hO (z1 _ _ hv),fun e a hv=>.step hk' hO (z2 _ _ hv)⟩
  ·simp only[P4]at he
   split at he
   ·rename_i hl;cases he;exact⟨_,.err hk' (c1 hl)⟩
   rename_i hl
   split at he
   ·rename_i hh;cases he;exact⟨_,.err hk' (c2 (by omega) hh)⟩
   rename_i hh
   have hO:=c3 (by omega) (by simpa using hh)
   obtain⟨a,ha⟩:=p2 e he
   exact⟨a,.step hk' hO ha⟩
end Go.Proofs.YtfphceknmgadgaaGreatDoor
namespace Go.Proofs.YtfphceknmgadgaaGreatDoor
open Go.Vm
set_option maxHeartbeats 2000000
set_option maxRecDepth 20000
theorem aN{s:ByteArray}{i:Nat}(h:(B0 s i).e=0):(B0 s i).a=i:=by
 revert h
 unfold B0
 split
 ·intro h;simp[bad]at h
 ·split
  ·intro _;rfl
  split
  ·split
   ·intro h;simp[bad]at h
   ·intro _;rfl
  split
  ·split
   ·rename_i h1;intro h;exact absurd h h1
   ·intro _;rfl
  split
  ·unfold Eu
   split
   ·intro h;simp[bad]at h
   ·split
    ·intro h;simp[bad]at h
    ·intro _;rfl
  split
  ·intro _;rfl
  ·intro h;simp[bad]at h
theorem Xe(s:ByteArray): ∀f i,(CW s f i).1=0→ ∀x∈(CW s f i).2.2,x.k≠0→x.a<s.size:=by
 intro f
 induction f with
 |zero=>intro i _ x hx;simp[CW]at hx
 | succ f ih=>
  intro i h0 x hx hk
  by_cases hi:s.size≤i
  ·rw[Jr f hi]at hx
   simp only[List.mem_singleton]at hx
   subst hx
   exact absurd rfl hk
  by_cases he:(B0 s i).e=0
  rotate_left
  ·rw[Jp f hi he]at h0;exact absurd h0 he
  rw[Me f hi he rfl]at h0 hx
  have h0':(CW s f ((B0 s i).nx+Eg false (s.toList.drop (B0 s i).nx))).1=0:=h0
  simp only[h0',if_true,List.mem_cons]at hx
  rcases hx with rfl|hx
  ·rw[aN he];omega
  ·exact ih _ h0' x hx hk
theorem J7{s:ByteArray}(h0:(AV s).1=0): ∀x∈(AV s).2.2,x.k≠0→x.a<s.size:=by
 revert h0
 unfold AV
 split
 ·intro h;cases h
 ·exact fun h=>Xe s _ _ h
theorem qN{x:LR}(h:ov x):x.k≠0:=by
 rcases h with h|h|h|h<;>(rw[h.1];decide)
theorem Dp(s:ByteArray):(Cc s).size=s.size:=by unfold Cc;rw[Bg,Vd,BK]
theorem nO{P:ByteArray}(h0:(AV P).1=0): ∃K,(AV P).2.2=K++[GD P]∧ ∀x∈K,x.k≠0∧x.a+1≤P.size:=by
 obtain⟨K,hS,hw,_⟩:=EO h0
 refine⟨K,hS,fun x hx=>⟨qN (hw x hx), ?_⟩⟩
 exact J7 h0 x (by rw[hS];exact List.mem_append_left _ hx) (qN (hw x hx))
end Go.Proofs.YtfphceknmgadgaaGreatDoor
