/-
ParseExpr of the program; what the grammar looks at; spaces around a text.
Conditions: none.
-/
import Derived.Test.YtgmfcdeknaeikaaGreatDoorQf
set_option linter.unusedSimpArgs false
set_option linter.unusedVariables false
namespace Go.Proofs.YtgmfcdeknaeikaaGreatDoor
open Go.Vm
set_option maxHeartbeats 4000000
set_option maxRecDepth 20000
def z0:Xs:=.mk 0 eB eB 0 []
def r0:Xr:=⟨0,eB,eB,0,none,0,0⟩
inductive PxO (s:ByteArray):Int→Nat→Xs→Prop
 |scan:(AG s).1≠0→PxO s (AG s).1 (AG s).2.1 z0
 |er {e:Int} {j:Nat} {x:LR}:(AG s).1=0→e≠0→Pr (AG s).2.2 (.lv 0) 0 (.er e j)→(AG s).2.2[j]? =some x→PxO s e x.a z0
 |more {t:Xs} {j:Nat} {x:LR}:(AG s).1=0→Pr (AG s).2.2 (.lv 0) 0 (.ok t j)→(AG s).2.2[j]? =some x→x.k≠0→PxO s 2 x.a z0
 |ok {t:Xs} {j:Nat} {x:LR}:(AG s).1=0→Pr (AG s).2.2 (.lv 0) 0 (.ok t j)→(AG s).2.2[j]? =some x→x.k=0→PxO s 0 0 t
theorem PxO.det{s:ByteArray}{e e':Int}{a a':Nat}{t t':Xs}(h:PxO s e a t)(h':PxO s e' a' t'):e=e'∧a=a'∧t=t':=by
 cases h with
 |scan h0=>cases h' with
  |scan=>exact⟨rfl,rfl,rfl⟩
  |er g0=>exact absurd g0 h0
  |more g0=>exact absurd g0 h0
  |ok g0=>exact absurd g0 h0
 | er h0 h1 h2 h3=>cases h' with
  |scan g0=>exact absurd h0 g0
  |er g0 g1 g2 g3=>
   cases h2.det g2
   rw[h3]at g3
   cases g3
   exact⟨rfl,rfl,rfl⟩
  |more g0 g1 g2 g3=>cases h2.det g1
  |ok g0 g1 g2 g3=>cases h2.det g1
 | more h0 h1 h2 h3=>cases h' with
  |scan g0=>exact absurd h0 g0
  |er g0 g1 g2 g3=>cases h1.det g2
  |more g0 g1 g2 g3=>
   cases h1.det g1
   rw[h2]at g2
   cases g2
   exact⟨rfl,rfl,rfl⟩
  |ok g0 g1 g2 g3=>
   cases h1.det g1
   rw[h2]at g2
   cases g2
   exact absurd g3 h3
 | ok h0 h1 h2 h3=>cases h' with
  |scan g0=>exact absurd h0 g0
  |er g0 g1 g2 g3=>cases h1.det g2
  |more g0 g1 g2 g3=>
   cases h1.det g1
   rw[h2]at g2
   cases g2
   exact absurd h3 g3
  |ok g0 g1 g2 g3=>
   cases h1.det g1
   exact⟨rfl,rfl,rfl⟩
theorem Ot(A:AH)(s:ByteArray)(hs:s.size≤100000):AK Tryz.prog 82 #[.string s] A (fun u_ A_=> ∃v B,u_=v∧(∃e at_ t r,PxO s e at_ t∧v=.tuple #[Bt r,.int .i64 e,.int .i64 (at_:Nat)]∧ExR B t r)∧Dis B A∧SubA (B++A) A_):=by
 refine AC ⟨Tryz.prog,82,Tryz.f82,20,[0,2,3,4,5,6,7],⟨[114],none⟩,[],_⟩ rfl (args:=[_]) Tryz.func82 rfl (by kernel_rfl) Tryz.ntmps82 (by simp) (by kernel_rfl) ?_
 intro ν fr;have nuE:=fr.nu
 have f0:=fr.2 0
 have f1:=fr.2 1
 have e01:(ν 1=ν 0)=False:=by simp[nuE]
 simp only[AF,↓AE,simprocAttr]
 have dst_:((ν 0=ν 1)=False)∧((ν 1=ν 0)=False):=(by simp[nuE]);generalize ν 0=n2 at dst_  f0 f1 e01 ⊢;generalize ν 1=xb at dst_  f0 f1 e01⊢
 clear nuE fr dst_
 refine AK.toX (nW [(xb,zX)] s hs 115 (.pointer (some ⟨xb,0,none⟩)) (fun e j=>Pr (AG s).2.2 (.lv 0) 0 (.er e j)) (fun j A'=> ∃t r,Pr (AG s).2.2 (.lv 0) 0 (.ok t j)∧ExR A' t r∧Vm.AA A' xb=some (xB r)) (by kernel_rfl) ?_) (SubA.left [_] _) ((n2,zX)::A) ?_ ?_ ?_
 ·intro pb cb lp lcap B h0 hp dB n1 n2
  have hpos:0<(AG s).2.2.length:=by
   obtain⟨K,hS,_⟩:=DY h0
   rw[hS];simp
  have hx:Vm.AA (PS pb cb lp lcap (AG s).2.2 0 B) xb=none:=by
   have m1:=(AU n1 (show Vm.AA [(xb,zX)] xb=some zX by simp[Vm.AA])).1
   have m2:=(AU n2 (show Vm.AA [(xb,zX)] xb=some zX by simp[Vm.AA])).1
   simp only[PS,Vm.AA,m1,m2,if_false]
   exact dB xb (by simp[Vm.AA])
  refine AM.useX (nM pb cb lp lcap (AG s).2.2 B hp 0 hpos xb hx) (SubA.both (X:=[(xb,zX)]) (Dis.one hx).symm.right (SubA.left (PS pb cb lp lcap (AG s).2.2 0 B) _)) [] (SubA.nil _) (fun x hx=>absurd rfl hx) ?_ ?_
  ·rintro ch D ⟨e,j,x,h1,h2,h3,h4,_⟩ _
   exact⟨[],SubA.nil _,e,j,x,h1,h2,h3,h4⟩
  ·rintro v D ⟨t,j,r,A',hq,hr,hj,hsub,hp',hxb,hD⟩ _
   have m3:=(hp'.far hxb).1
   have m4:=(hp'.far hxb).2
   have hxA:Vm.AA A' xb=none:=(show SubA A' (PS pb cb lp lcap (AG s).2.2 j A') from SubA.skip (by simp[hp'.nc]) (SubA.skip hp'.np (SubA.refl _))).none hxb
   refine⟨PS pb cb lp lcap (AG s).2.2 j (A'++[(xb,xB r)]), ?_,j,A'++[(xb,xB r)],⟨t,r,hq,hr.mono (SubA.left _ _),by rw[F7 hxA];simp[Vm.AA]⟩,hj, ?_,by rw[List.append_nil];exact SubA.refl _⟩
   ·refine SubA.trans (show SubA (PS pb cb lp lcap (AG s).2.2 j A'++[(xb,xB r)]) ([(xb,xB r)]++PS pb cb lp lcap (AG s).2.2 j A') from SubA.both (Dis.one hxb).right (SubA.left _ _)) hD
   ·exact⟨hp'.ne,hp'.en,AD hp'.np (by simp[Vm.AA,m3.1]),AD hp'.nc (by simp[Vm.AA,m4.1]),hp'.hL.mono (SubA.left _ _),hp'.hl,hp'.he⟩
 ·exact SubA.fresh (AJ (eq_false fun h=>by rw[h]at e01;simp at e01) f1) (SubA.refl _)
 ·exact Dis.one (AJ (eq_false fun h=>by rw[h]at e01;simp at e01) f1)
 ·rintro u D hu dD
  have h9:(∃(e:Int) (at_:Nat),e≠0∧PxO s e at_ z0∧u=.tuple #[.int .i64 e,.int .i64 (at_:Nat)])∨ ∃A' t r,PxO s 0 0 t∧ExR A' t r∧Vm.AA A' xb=some (xB r)∧u=.tuple #[.int .i64 0,.int .i64 0]∧SubA A' D:=by
   rcases hu with⟨h0,rfl,hD⟩|⟨h0,⟨e,j,x,h1,h2,h3,rfl⟩|⟨j,A',x,⟨t,r,hq,hr,hxb⟩,hx,⟨hk,rfl,hD⟩|⟨hk,rfl⟩⟩⟩
   ·exact .inl ⟨_,_,h0,.scan h0,rfl⟩
   ·exact .inl ⟨_,_,h1,.er h0 h1 h2 h3,rfl⟩
   ·exact .inr ⟨A',t,r,.ok h0 hq hx hk,hr,hxb,rfl,hD⟩
   ·exact .inl ⟨_,_,by decide,.more h0 hq hx hk,rfl⟩
  clear hu
  rcases h9 with⟨e,at_,he,hP,rfl⟩|⟨A',t,r,hP,hr,hxb,rfl,hD⟩
  ·refine⟨(n2,zX)::A,dD.right, ?_⟩
   have ne0:(e !=0)=true:=by simp[he]
   clear dD
   simp only[zX]
   intro ν fr
   simp only[AF,↓AE,simprocAttr,ne0]
   exact⟨_,[],rfl,⟨e,at_,z0,r0,hP,rfl,ExR.leaf _ _ _ _ _ _ _⟩,Dis.nil _,SubA.fresh f0 (SubA.refl _)⟩
  ·have dD2:Dis A' ((n2,zX)::A):=dD.subl hD
   have f0':Vm.AA A' n2=none:=dD2 n2 (by simp[Vm.AA])
   have dA:Dis A' A:=Dis.subr dD2 (SubA.fresh f0 (SubA.refl _))
   have e10:(n2=xb)=False:=eq_false fun h=>by rw[h]at e01;simp at e01
   have fA:Vm.AA (A'++A) n2=none:=AD f0' f0
   have lx:Vm.AA (A'++A) xb=some (xB r):=SubA.left A' A xb _ hxb
   refine⟨(n2,zX)::(A'++A), ?_, ?_⟩
   ·refine SubA.both (X:=[(n2,zX)]) (SubA.trans (SubA.left [_] A) dD.right) (SubA.both (SubA.trans hD (SubA.left _ _)) (SubA.trans (SubA.fresh f0 (SubA.refl _)) dD.right))
   ·clear dD hD dD2
    simp only[zX,xB]at lx⊢
    intro ν fr
    simp only[AF,↓AE,simprocAttr,e10,lx]
    exact⟨_,A',rfl,⟨0,0,t,r,hP,rfl,hr⟩,dA,SubA.fresh fA (SubA.refl _)⟩
set_option maxHeartbeats 4000000
set_option maxRecDepth 20000
def Gk(L M:List LR):Prop:= ∀i,Cl (Af L i)=Cl (Af M i)
theorem Bb{x y:LR}(h:Cl x=Cl y):x.k=y.k∧x.t=y.t∧x.n=y.n:=by simpa[Cl]using h
theorem Gk.of{L M:List LR}(h:L.map Cl=M.map Cl):Gk L M:=by
 intro i
 have hi:(L.map Cl)[i]? =(M.map Cl)[i]? :=by rw[h]
 rw[List.getElem?_map,List.getElem?_map]at hi
 unfold Af
 rw[List.getD_eq_getElem?_getD,List.getD_eq_getElem?_getD]
 cases h1:L[i]? <;>cases h2:M[i]? <;>simp_all
theorem Gk.symm{L M:List LR}(h:Gk L M):Gk M L:=fun i=>(h i).symm
section
variable {L M:List LR} (H:Gk L M)
include H
theorem Gk.k(i:Nat):(Af L i).k=(Af M i).k:=(Bb (H i)).1
theorem Gk.t(i:Nat):(Af L i).t=(Af M i).t:=(Bb (H i)).2.1
theorem Gk.n(i:Nat):(Af L i).n=(Af M i).n:=(Bb (H i)).2.2
theorem Gk.is(i:Nat)(k:Int)(t:ByteArray):Aw (Af L i) k t=Aw (Af M i) k t:=by unfold Aw;rw[H.k,H.t]
theorem Gk.nm(i:Nat):Gi (Af L i)=Gi (Af M i):=by unfold Gi;rw[H.k,H.t]
theorem Gk.nu(i:Nat)(m:Int):Kk (Af L i) m=Kk (Af M i) m:=by unfold Kk;rw[H.k,H.n]
theorem Gk.op(l i:Nat):EP l (Af L i)=EP l (Af M i):=by unfold EP;simp only[H.is]
theorem Gk.cm(i:Nat):Ge (Af L i)=Ge (Af M i):=by unfold Ge;simp only[H.is]
theorem Gk.in_(i:Nat):Mp (Af L i)=Mp (Af M i):=by unfold Mp;simp only[H.is]
theorem Gk.un(i:Nat):Dh (Af L i)=Dh (Af M i):=by unfold Dh;simp only[H.is,H.k,H.nm]
theorem Gk.us(i:Nat):KX L i=KX M i:=by unfold KX;simp only[H.is,H.nu,H.nm,H.t,H.n]
theorem Pr.key{q:Qr}{i:Nat}{r:Rz}(h:Pr L q i r):Pr M q i r:=by
 induction h with
 |opE a b _ ih=>exact .opE a b ih
 |opO a b _ _ ih1 ih2=>exact .opO a b ih1 ih2
 |lpN a=>rw[H.op]at a;exact .lpN a
 |lpE a _ ih=>rw[H.op]at a;exact .lpE a ih
 |lpO a _ _ ih1 ih2=>rw[H.op]at a;exact .lpO a ih1 ih2
 |cmE _ ih=>exact .cmE ih
 |cmN _ a b ih=>rw[H.cm]at a;rw[H.in_]at b;exact .cmN ih a b
 |cmF _ a _ ih1 ih2=>rw[H.cm]at a;exact .cmF ih1 a ih2
 |cmO _ a _ ih1 ih2=>rw[H.cm]at a;exact .cmO ih1 a ih2
 |inP _ a b c ih=>rw[H.cm]at a;rw[H.in_]at b;rw[H.is]at c;exact .inP ih a b c
 |inC _ a b c _ ih1 ih2=>rw[H.cm]at a;rw[H.in_]at b;rw[H.is]at c;exact .inC ih1 a b c ih2
 |chE _ ih=>exact .chE ih
 |chM _ a _ ih1 ih2=>rw[H.is]at a;exact .chM ih1 a ih2
 |chO _ a b ih=>rw[H.is]at a b;exact .chO ih a b
 |chB _ a b ih=>rw[H.is]at a b;exact .chB ih a b
 |unO a _ ih=>rw[H.un]at a;exact .unO a ih
 |unE a _ ih=>rw[H.un]at a;exact .unE a ih
 |usO a b=>rw[H.un]at a;rw[H.us]at b;exact .usO a b
 |usE a b c=>rw[H.un]at a;rw[H.us]at b;exact .usE a b c
 |paE a _ ih=>rw[H.un]at a;exact .paE a ih
 |paO a _ b ih=>rw[H.un]at a;rw[H.is]at b;exact .paO a ih b
 |paB a _ b ih=>rw[H.un]at a;rw[H.is]at b;exact .paB a ih b
 |nu a=>rw[H.un]at a;rw[H.n];exact .nu a
 |te a=>rw[H.un]at a;rw[H.t];exact .te a
 |na a=>rw[H.un]at a;rw[H.t];exact .na a
 |ba a=>rw[H.un]at a;exact .ba a
end
set_option maxHeartbeats 1000000
set_option maxRecDepth 20000
theorem C0{s:ByteArray}{i:Nat}(n:Nat)(h:s.size≤i):A9 s (n+1) i=(0,0,[DS s]):=by rw[A9,if_pos h]
theorem Dg{s:ByteArray}{i:Nat}(n:Nat)(h: ¬s.size≤i)(he:(Al s i).e≠0):A9 s (n+1) i=((Al s i).e,i,[]):=by rw[A9,if_neg h,if_pos he]
theorem DC{s:ByteArray}{i:Nat}(n:Nat)(h: ¬s.size≤i)(he:(Al s i).e=0){j:Nat}(hj:(Al s i).nx+Bi false (s.toList.drop (Al s i).nx)=j):A9 s (n+1) i=((A9 s n j).1,(A9 s n j).2.1,if(A9 s n j).1=0 then Al s i::(A9 s n j).2.2 else []):=by
 subst hj
 rw[A9,if_neg h,if_neg (by rw[he];simp)]
def ns(d:Nat)(x:LR):LR:={x with a:=x.a+d,nx:=x.nx+d}
theorem oz{f:List UInt8}{s s':ByteArray}(h:s'.toList=f++s.toList)(i j:Nat):s'.extract (i+f.length) (j+f.length)=s.extract i j:=by
 apply DD
 rw[Ds,Ds,h,List.drop_take,List.drop_take,List.drop_append,show i+f.length - f.length=i by omega,List.drop_eq_nil_of_le (by omega),List.nil_append]
 congr 1
 omega
theorem aZ{f:List UInt8}{s s':ByteArray}(h:s'.toList=f++s.toList)(i:Nat):Al s' (i+f.length)=if(Al s i).e=0 then ns f.length (Al s i)else Al s i:=by
 have hd: ∀k,s'.toList.drop (k+f.length)=s.toList.drop k:=fun k=>by rw[h,List.drop_append,List.drop_eq_nil_of_le (by omega),List.nil_append];congr 1;omega
 have hx:=oz h
 have e2:i+f.length+2=i+2+f.length:=by omega
 have e1:i+f.length+1=i+1+f.length:=by omega
 unfold Al
 rw[hd]
 cases hl:s.toList.drop i with
 |nil=>simp[bad]
 | cons c l=>
  have ew:i+f.length+Ax (c::l)=i+Ax (c::l)+f.length:=by omega
  simp only[e2,e1,ew,hx]
  by_cases h1:DJ (c::l)=true
  ·simp only[h1,if_true];simp[ns]
  simp only[h1]
  by_cases h2:BX c.toNat=true
  ·simp only[h2,if_true]
   by_cases h3:16<Ax (c::l)
   ·simp[h3,bad]
   ·simp[h3,ns]
  simp only[h2]
  by_cases h3:Ae c.toNat=true
  ·simp only[h3,if_true]
   by_cases h4:(EM (s.extract i (i+Ax (c::l))).toList).2≠0
   ·simp[h4,bad]
   ·simp[h4,ns]
  simp only[h3]
  by_cases h4:c.toNat=34
  ·simp only[h4,if_true,Fg,e1,hd]
   cases Ci (s.toList.drop (i+1))with
   |none=>simp[bad]
   | some k=>
    by_cases h5:100<k
    ·simp[h5,bad]
    ·have e3:i+1+f.length+k=i+1+k+f.length:=by omega
     have e4:i+f.length+k+2=i+k+2+f.length:=by omega
     simp only[h5,if_false,e3,e4,hx]
     simp[ns]
  simp only[h4,if_false]
  by_cases h5:Gb c.toNat=true
  ·simp[h5,ns]
  ·simp[h5,bad]
def J0(d:Nat)(x:LR):(Int×ByteArray×Int)×Nat:=(Cl x,x.a+d)
theorem Xj{f:List UInt8}{s s':ByteArray}(h:s'.toList=f++s.toList): ∀(n' n i:Nat),s.size<i+n→s.size<i+n'→i≤s.size→(A9 s' n' (i+f.length)).1=(A9 s n i).1∧(A9 s' n' (i+f.length)).2.1=(if(A9 s n i).1=0 then(A9 s n i).2.1 else(A9 s n i).2.1+f.length)∧(A9 s' n' (i+f.length)).2.2.map (J0 0)=(A9 s n i).2.2.map (J0 f.length):=by
 have hd: ∀k,s'.toList.drop (k+f.length)=s.toList.drop k:=fun k=>by rw[h,List.drop_append,List.drop_eq_nil_of_le (by omega),List.nil_append];congr 1;omega
 have hz:s'.size=s.size+f.length:=by rw[←AP,h,List.length_append,AP];omega
 intro n'
 induction n' with
 |zero=>intro n i h1 h2 h3;omega
 | succ n' ih=>
  intro n i h1 h2 h3
  cases n with
  |zero=>omega
  | succ n=>
   by_cases hi:s.size≤i
   ·rw[C0 n hi,C0 n' (by omega)]
    simp[J0,Cl,DS,hz]
   ·have hl:=aZ h i
    by_cases he:(Al s i).e=0
    ·rw[if_pos he]at hl
     obtain⟨g1,g2⟩:=DF s i (by omega) he
     have en:(Al s' (i+f.length)).nx=(Al s i).nx+f.length:=by rw[hl];rfl
     have ee:(Al s' (i+f.length)).e=0:=by rw[hl];exact he
     have hk:=D8 false (s.toList.drop (Al s i).nx)
     rw[List.length_drop,AP]at hk
     rw[DC n hi he rfl,DC n' (by omega) ee (j:=(Al s i).nx+Bi false (s.toList.drop (Al s i).nx)+f.length) (by rw[en,hd];omega),hl]
     obtain⟨q1,q2,q3⟩:=ih n ((Al s i).nx+Bi false (s.toList.drop (Al s i).nx)) (by omega) (by omega) (by omega)
     refine⟨q1,q2, ?_⟩
     simp only[q1]
     split
     ·simp only[List.map_cons,q3];simp[J0,Cl,ns]
     ·rfl
    ·rw[if_neg he]at hl
     have ee:(Al s' (i+f.length)).e=(Al s i).e:=by rw[hl]
     rw[Dg n hi he,Dg n' (by omega) (by rw[ee];exact he),ee]
     simp[he]
theorem RV(r:List UInt8): ∀l,Ax (l++10::r)=Ax l
 | []=>by simp[Ax,BG,BX,Ae]
 |c::l=>by simp only[List.cons_append,Ax,RV r l]
theorem Qd(r:List UInt8): ∀l,Ci (l++10::r)=Ci l
 | []=>by simp[Ci,J6]
 |c::l=>by simp only[List.cons_append,Ci,Qd r l]
theorem bU(c:UInt8)(l r:List UInt8):DJ (c::(l++10::r))=DJ (c::l):=by
 cases l with
 |nil=>simp[DJ,List.isPrefixOf]
 |cons d l=>simp[DJ,List.isPrefixOf]
theorem Pa{r:List UInt8}{s s':ByteArray}(h:s'.toList=s.toList++r){i j:Nat}(hj:j≤s.size):s'.extract i j=s.extract i j:=by
 apply DD
 rw[Ds,Ds,h,List.take_append_of_le_length (by rw[AP];exact hj)]
theorem UZ: ∀{l:List UInt8} {k:Nat},Ci l=some k→k+1≤l.length
 | [],k,h=>by simp[Ci]at h
 | c::l,k,h=>by
  simp only[Ci]at h
  split at h
  ·cases h;simp
  ·split at h
   ·cases h
   ·split at h
    ·rename_i q hq;cases h;have:=UZ hq;simp;omega
    ·cases h
theorem aa{r:List UInt8}{s s':ByteArray}(h:s'.toList=s.toList++10::r)(i:Nat)(hi:i<s.size):Al s' i=Al s i:=by
 have hd: ∀k,k≤s.size→s'.toList.drop k=s.toList.drop k++10::r:=fun k hk=>by rw[h,List.drop_append_of_le_length (by rw[AP];exact hk)]
 obtain⟨c,l,hl⟩:=D3 hi
 have hlen:=congrArg List.length hl
 rw[List.length_drop,AP,List.length_cons]at hlen
 have hw:=GV (c::l)
 rw[List.length_cons]at hw
 unfold Al
 rw[hd i (by omega),hl]
 have e5:c::l++10::r=c::(l++10::r):=rfl
 have e6:Ax (c::(l++10::r))=Ax (c::l):=RV r (c::l)
 simp only[e5,bU,e6]
 rw[Pa h (j:=i+Ax (c::l)) (by omega),Pa h (j:=i+1) (by omega)]
 by_cases h1:DJ (c::l)=true
 ·simp only[h1,if_true]
  have:0<l.length:=by
   simp only[DJ,Bool.or_eq_true]at h1
   rcases h1 with h1|h1<;>exact(Hp _ _ _ _ h1).2.2
  rw[Pa h (by omega)]
 have ht:Fg s' i=Fg s i:=by
  unfold Fg
  rw[hd (i+1) (by omega),Qd]
  cases hq:Ci (s.toList.drop (i+1))with
  |none=>rfl
  |some k=>
   have:=UZ hq
   rw[List.length_drop,AP]at this
   simp only
   rw[Pa h (by omega)]
 simp only[h1,if_false,ht,Bool.false_eq_true]
end Go.Proofs.YtgmfcdeknaeikaaGreatDoor
