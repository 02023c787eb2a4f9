/-
ParseExpr of the program; what the grammar looks at; spaces around a text.
Conditions: none.
-/
import Derived.Test.YtfphceknmgadgaaGreatDoorQf
set_option linter.unusedSimpArgs false
set_option linter.unusedVariables false
namespace Go.Proofs.YtfphceknmgadgaaGreatDoor
open Go.Vm
set_option maxHeartbeats 4000000
set_option maxRecDepth 20000
theorem nH:type_of% (An @BC (An @BU (An @BS (An @Aw (An @BB (An @BT (An @Bn (An @BN (An @CA (An @CS (An @B9 (An @CR (An @Cm (An @CT (An @CC (An @Bp (An @Bq (An @CQ (An @Be (An @Br (An @CB (An @Bo @Bx)))))))))))))))))))))):=⟨@BC,@BU,@BS,@Aw,@BB,@BT,@Bn,@BN,@CA,@CS,@B9,@CR,@Cm,@CT,@CC,@Bp,@Bq,@CQ,@Be,@Br,@CB,@Bo,@Bx⟩
def z0:Xs:=.mk 0 eB eB 0 []
def r0:Xr:=⟨0,eB,eB,0,none,0,0⟩
inductive PxO (s:ByteArray):Int→Nat→Xs→Prop
 |scan:(AV s).1≠0→PxO s (AV s).1 (AV s).2.1 z0
 |er {e:Int} {j:Nat} {x:LR}:(AV s).1=0→e≠0→Pr (AV s).2.2 (.lv 0) 0 (.er e j)→(AV s).2.2[j]? =some x→PxO s e x.a z0
 |more {t:Xs} {j:Nat} {x:LR}:(AV s).1=0→Pr (AV s).2.2 (.lv 0) 0 (.ok t j)→(AV s).2.2[j]? =some x→x.k≠0→PxO s 2 x.a z0
 |ok {t:Xs} {j:Nat} {x:LR}:(AV s).1=0→Pr (AV s).2.2 (.lv 0) 0 (.ok t j)→(AV s).2.2[j]? =some x→x.k=0→PxO s 0 0 t
theorem PxO.det{s:ByteArray}{e e':Int}{a a':Nat}{t t':Xs}(h:PxO s e a t)(h':PxO s e' a' t'):e=e'∧a=a'∧t=t':=by
 cases h with
 |scan h0=>cases h' with
  |scan=>exact⟨rfl,rfl,rfl⟩
  |er g0=>exact absurd g0 h0
  |more g0=>exact absurd g0 h0
  |ok g0=>exact absurd g0 h0
 | er h0 h1 h2 h3=>cases h' with
  |scan g0=>exact absurd h0 g0
  |er g0 g1 g2 g3=>
   cases h2.det g2
   rw[h3]at g3
   cases g3
   exact⟨rfl,rfl,rfl⟩
  |more g0 g1 g2 g3=>cases h2.det g1
  |ok g0 g1 g2 g3=>cases h2.det g1
 | more h0 h1 h2 h3=>cases h' with
  |scan g0=>exact absurd h0 g0
  |er g0 g1 g2 g3=>cases h1.det g2
  |more g0 g1 g2 g3=>
   cases h1.det g1
   rw[h2]at g2
   cases g2
   exact⟨rfl,rfl,rfl⟩
  |ok g0 g1 g2 g3=>
   cases h1.det g1
   rw[h2]at g2
   cases g2
   exact absurd g3 h3
 | ok h0 h1 h2 h3=>cases h' with
  |scan g0=>exact absurd h0 g0
  |er g0 g1 g2 g3=>cases h1.det g2
  |more g0 g1 g2 g3=>
   cases h1.det g1
   rw[h2]at g2
   cases g2
   exact absurd h3 g3
  |ok g0 g1 g2 g3=>
   cases h1.det g1
   exact⟨rfl,rfl,rfl⟩
theorem QB(A:AH)(s:ByteArray)(hs:s.size≤100000):AM Tryz.prog 84 #[.string s] A (fun u_ A_=> ∃v B,u_=v∧(∃e at_ t r,PxO s e at_ t∧v=.tuple #[C5 r,.int .i64 e,.int .i64 (at_:Nat)]∧ExR B t r)∧Dis B A∧SubA (B++A) A_):=by
 refine AR ⟨Tryz.prog,84,Tryz.f84,20,[0,2,3,4,5,6,7],⟨[109],none⟩,[],_⟩ rfl (args:=[_]) Tryz.func84 rfl (by kernel_rfl) Tryz.ntmps84 (by simp) (by kernel_rfl) ?_
 intro ν fr;have nuE:=fr.nu
 have f0:=fr.2 0
 have f1:=fr.2 1
 have e01:(ν 1=ν 0)=False:=by simp[nuE]
 simp (maxDischargeDepth:=16) only[AX,↓AW,simprocAttr,forall_const,nuE,fr.2,nH]
 have dst_:((ν 0=ν 1)=False)∧((ν 1=ν 0)=False):=(by simp[nuE]);generalize ν 0=n2 at dst_  f0 f1 e01 ⊢;generalize ν 1=xb at dst_  f0 f1 e01⊢
 clear nuE fr dst_
 refine AM.toX (mf [(xb,zX)] s hs 110 (.pointer (some ⟨xb,0,none⟩)) (fun e j=>Pr (AV s).2.2 (.lv 0) 0 (.er e j)) (fun j A'=> ∃t r,Pr (AV s).2.2 (.lv 0) 0 (.ok t j)∧ExR A' t r∧Vm.AA A' xb=some (xB r)) (by kernel_rfl) ?_) (SubA.left [_] _) ((n2,zX)::A) ?_ ?_ ?_
 ·intro pb cb lp lcap B h0 hp dB n1 n2
  have hpos:0<(AV s).2.2.length:=by
   obtain⟨K,hS,_⟩:=EO h0
   rw[hS];simp
  have hx:Vm.AA (PS pb cb lp lcap (AV s).2.2 0 B) xb=none:=by
   have m1:=(BF n1 (show Vm.AA [(xb,zX)] xb=some zX by simp[Vm.AA])).1
   have m2:=(BF n2 (show Vm.AA [(xb,zX)] xb=some zX by simp[Vm.AA])).1
   simp only[PS,Vm.AA,m1,m2,if_false]
   exact dB xb (by simp[Vm.AA])
  refine AZ.useX (ma pb cb lp lcap (AV s).2.2 B hp 0 hpos xb hx) (SubA.both (X:=[(xb,zX)]) (Dis.one hx).symm.right (SubA.left (PS pb cb lp lcap (AV s).2.2 0 B) _)) [] (SubA.nil _) (fun x hx=>absurd rfl hx) ?_ ?_
  ·rintro ch D ⟨e,j,x,h1,h2,h3,h4,_⟩ _
   exact⟨[],SubA.nil _,e,j,x,h1,h2,h3,h4⟩
  ·rintro v D ⟨t,j,r,A',hq,hr,hj,hsub,hp',hxb,hD⟩ _
   have m3:=(hp'.far hxb).1
   have m4:=(hp'.far hxb).2
   have hxA:Vm.AA A' xb=none:=(show SubA A' (PS pb cb lp lcap (AV s).2.2 j A') from SubA.skip (by simp[Vm.AA,hp'.nc,hp'.ne]) (SubA.skip hp'.np (SubA.refl _))).none hxb
   refine⟨PS pb cb lp lcap (AV s).2.2 j (A'++[(xb,xB r)]), ?_,j,A'++[(xb,xB r)],⟨t,r,hq,hr.mono (SubA.left _ _),by rw[JK hxA];simp[Vm.AA]⟩,hj, ?_,by rw[List.append_nil];exact SubA.refl _⟩
   ·refine SubA.trans (show SubA (PS pb cb lp lcap (AV s).2.2 j A'++[(xb,xB r)]) ([(xb,xB r)]++PS pb cb lp lcap (AV s).2.2 j A') from SubA.both (Dis.one hxb).right (SubA.left _ _)) hD
   ·exact⟨hp'.ne,hp'.en,AJ hp'.np (by simp[Vm.AA,m3.1]),AJ hp'.nc (by simp[Vm.AA,m4.1]),hp'.hL.mono (SubA.left _ _),hp'.hl,hp'.he⟩
 ·exact SubA.fresh (AK (eq_false fun h=>by rw[h]at e01;simp at e01) f1) (SubA.refl _)
 ·exact Dis.one (AK (eq_false fun h=>by rw[h]at e01;simp at e01) f1)
 ·rintro u D hu dD
  have h9:(∃(e:Int) (at_:Nat),e≠0∧PxO s e at_ z0∧u=.tuple #[.int .i64 e,.int .i64 (at_:Nat)])∨ ∃A' t r,PxO s 0 0 t∧ExR A' t r∧Vm.AA A' xb=some (xB r)∧u=.tuple #[.int .i64 0,.int .i64 0]∧SubA A' D:=by
   rcases hu with⟨h0,rfl,hD⟩|⟨h0,⟨e,j,x,h1,h2,h3,rfl⟩|⟨j,A',x,⟨t,r,hq,hr,hxb⟩,hx,⟨hk,rfl,hD⟩|⟨hk,rfl⟩⟩⟩
   ·exact .inl ⟨_,_,h0,.scan h0,rfl⟩
   ·exact .inl ⟨_,_,h1,.er h0 h1 h2 h3,rfl⟩
   ·exact .inr ⟨A',t,r,.ok h0 hq hx hk,hr,hxb,rfl,hD⟩
   ·exact .inl ⟨_,_,by decide,.more h0 hq hx hk,rfl⟩
  clear hu
  rcases h9 with⟨e,at_,he,hP,rfl⟩|⟨A',t,r,hP,hr,hxb,rfl,hD⟩
  ·refine⟨(n2,zX)::A,dD.right, ?_⟩
   have ne0:(e !=0)=true:=by simp[he]
   clear dD
   simp only[zX]
   intro ν fr;have nuE:=And.intro (fr.mem (b:=n2) (by simp)) (fr.nu)
   simp (maxDischargeDepth:=16) only[AX,↓AW,simprocAttr,forall_const,nuE,fr.2,nH,ne0]
   exact⟨_,[],rfl,⟨e,at_,z0,r0,hP,rfl,ExR.leaf _ _ _ _ _ _ _⟩,Dis.nil _,SubA.fresh f0 (SubA.refl _)⟩
  ·have dD2:Dis A' ((n2,zX)::A):=dD.subl hD
   have f0':Vm.AA A' n2=none:=dD2 n2 (by simp[Vm.AA])
   have dA:Dis A' A:=Dis.subr dD2 (SubA.fresh f0 (SubA.refl _))
   have e10:(n2=xb)=False:=eq_false fun h=>by rw[h]at e01;simp at e01
   have fA:Vm.AA (A'++A) n2=none:=AJ f0' f0
   have lx:Vm.AA (A'++A) xb=some (xB r):=SubA.left A' A xb _ hxb
   refine⟨(n2,zX)::(A'++A), ?_, ?_⟩
   ·refine SubA.both (X:=[(n2,zX)]) (SubA.trans (SubA.left [_] A) dD.right) (SubA.both (SubA.trans hD (SubA.left _ _)) (SubA.trans (SubA.fresh f0 (SubA.refl _)) dD.right))
   ·clear dD hD dD2
    simp only[zX,xB]at lx⊢
    intro ν fr;have nuE:=And.intro (fr.mem (b:=n2) (by simp)) (fr.nu)
    simp (maxDischargeDepth:=16) only[AX,↓AW,simprocAttr,forall_const,nuE,fr.2,nH,e10,lx]
    exact⟨_,A',rfl,⟨0,0,t,r,hP,rfl,hr⟩,dA,SubA.fresh fA (SubA.refl _)⟩
end Go.Proofs.YtfphceknmgadgaaGreatDoor
namespace Go.Proofs.YtfphceknmgadgaaGreatDoor
open Go.Vm
set_option maxHeartbeats 4000000
set_option maxRecDepth 20000
def Ge(L M:List LR):Prop:= ∀i,J5 (BR L i)=J5 (BR M i)
theorem Dv{x y:LR}(h:J5 x=J5 y):x.k=y.k∧x.t=y.t∧x.n=y.n:=by simpa[J5]using h
theorem Ge.of{L M:List LR}(h:L.map J5=M.map J5):Ge L M:=by
 intro i
 have hi:(L.map J5)[i]? =(M.map J5)[i]? :=by rw[h]
 rw[List.getElem?_map,List.getElem?_map]at hi
 unfold BR
 rw[List.getD_eq_getElem?_getD,List.getD_eq_getElem?_getD]
 cases h1:L[i]? <;>cases h2:M[i]? <;>simp_all
theorem Ge.symm{L M:List LR}(h:Ge L M):Ge M L:=fun i=>(h i).symm
section
variable {L M:List LR} (H:Ge L M)
include H
theorem Ge.k(i:Nat):(BR L i).k=(BR M i).k:=(Dv (H i)).1
theorem Ge.t(i:Nat):(BR L i).t=(BR M i).t:=(Dv (H i)).2.1
theorem Ge.n(i:Nat):(BR L i).n=(BR M i).n:=(Dv (H i)).2.2
theorem Ge.is(i:Nat)(k:Int)(t:ByteArray):BX (BR L i) k t=BX (BR M i) k t:=by unfold BX;rw[H.k,H.t]
theorem Ge.nm(i:Nat):FA (BR L i)=FA (BR M i):=by unfold FA;rw[H.k,H.t]
theorem Ge.nu(i:Nat)(m:Int):F9 (BR L i) m=F9 (BR M i) m:=by unfold F9;rw[H.k,H.n]
theorem Ge.op(l i:Nat):Hs l (BR L i)=Hs l (BR M i):=by unfold Hs;simp only[H.is]
theorem Ge.cm(i:Nat):Hf (BR L i)=Hf (BR M i):=by unfold Hf;simp only[H.is]
theorem Ge.in_(i:Nat):W4 (BR L i)=W4 (BR M i):=by unfold W4;simp only[H.is]
theorem Ge.un(i:Nat):EW (BR L i)=EW (BR M i):=by unfold EW;simp only[H.is,H.k,H.nm]
theorem Ge.us(i:Nat):GK L i=GK M i:=by unfold GK;simp only[H.is,H.nu,H.nm,H.t,H.n]
theorem Pr.key{q:Qr}{i:Nat}{r:Rz}(h:Pr L q i r):Pr M q i r:=by
 induction h with
 |opE a b _ ih=>exact .opE a b ih
 |opO a b _ _ ih1 ih2=>exact .opO a b ih1 ih2
 |lpN a=>rw[H.op]at a;exact .lpN a
 |lpE a _ ih=>rw[H.op]at a;exact .lpE a ih
 |lpO a _ _ ih1 ih2=>rw[H.op]at a;exact .lpO a ih1 ih2
 |cmE _ ih=>exact .cmE ih
 |cmN _ a b ih=>rw[H.cm]at a;rw[H.in_]at b;exact .cmN ih a b
 |cmF _ a _ ih1 ih2=>rw[H.cm]at a;exact .cmF ih1 a ih2
 |cmO _ a _ ih1 ih2=>rw[H.cm]at a;exact .cmO ih1 a ih2
 |inP _ a b c ih=>rw[H.cm]at a;rw[H.in_]at b;rw[H.is]at c;exact .inP ih a b c
 |inC _ a b c _ ih1 ih2=>rw[H.cm]at a;rw[H.in_]at b;rw[H.is]at c;exact .inC ih1 a b c ih2
 |chE _ ih=>exact .chE ih
 |chM _ a _ ih1 ih2=>rw[H.is]at a;exact .chM ih1 a ih2
 |chO _ a b ih=>rw[H.is]at a b;exact .chO ih a b
 |chB _ a b ih=>rw[H.is]at a b;exact .chB ih a b
 |unO a _ ih=>rw[H.un]at a;exact .unO a ih
 |unE a _ ih=>rw[H.un]at a;exact .unE a ih
 |usO a b=>rw[H.un]at a;rw[H.us]at b;exact .usO a b
 |usE a b c=>rw[H.un]at a;rw[H.us]at b;exact .usE a b c
 |paE a _ ih=>rw[H.un]at a;exact .paE a ih
 |paO a _ b ih=>rw[H.un]at a;rw[H.is]at b;exact .paO a ih b
 |paB a _ b ih=>rw[H.un]at a;rw[H.is]at b;exact .paB a ih b
 |nu a=>rw[H.un]at a;rw[H.n];exact .nu a
 |te a=>rw[H.un]at a;rw[H.t];exact .te a
 |na a=>rw[H.un]at a;rw[H.t];exact .na a
 |ba a=>rw[H.un]at a;exact .ba a
end
end Go.Proofs.YtfphceknmgadgaaGreatDoor
namespace Go.Proofs.YtfphceknmgadgaaGreatDoor
open Go.Vm
set_option maxHeartbeats 1000000
set_option maxRecDepth 20000
theorem Jr{s:ByteArray}{i:Nat}(n:Nat)(h:s.size≤i):CW s (n+1) i=(0,0,[GD s]):=by rw[CW,if_pos h]
theorem Jp{s:ByteArray}{i:Nat}(n:Nat)(h: ¬s.size≤i)(he:(B0 s i).e≠0):CW s (n+1) i=((B0 s i).e,i,[]):=by rw[CW,if_neg h,if_pos he]
theorem Me{s:ByteArray}{i:Nat}(n:Nat)(h: ¬s.size≤i)(he:(B0 s i).e=0){j:Nat}(hj:(B0 s i).nx+Eg false (s.toList.drop (B0 s i).nx)=j):CW s (n+1) i=((CW s n j).1,(CW s n j).2.1,if(CW s n j).1=0 then B0 s i::(CW s n j).2.2 else []):=by
 subst hj
 rw[CW,if_neg h,if_neg (by rw[he];simp)]
end Go.Proofs.YtfphceknmgadgaaGreatDoor
