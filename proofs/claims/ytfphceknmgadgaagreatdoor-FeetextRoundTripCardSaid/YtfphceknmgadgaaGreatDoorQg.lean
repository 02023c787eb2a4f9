/-
ParseExpr of the program; what the grammar looks at; spaces around a text.
Conditions: none.
-/
import Derived.Test.YtfphceknmgadgaaGreatDoorQf
set_option linter.unusedSimpArgs false
set_option linter.unusedVariables false
namespace Go.Proofs.YtfphceknmgadgaaGreatDoor
open Go.Vm
set_option maxHeartbeats 4000000
set_option maxRecDepth 20000
theorem vbQg:type_of% (An @BR (An @Be (An @Bd (An @BF (An @BQ (An @Bf (An @CG (An @BX (An @CX (An @Cn (An @CZ (An @Cp (An @DB (An @Cq (An @CW (An @CD (An @CC (An @Co (An @Bw (An @CE (An @CY (An @CF @CH)))))))))))))))))))))):=⟨@BR,@Be,@Bd,@BF,@BQ,@Bf,@CG,@BX,@CX,@Cn,@CZ,@Cp,@DB,@Cq,@CW,@CD,@CC,@Co,@Bw,@CE,@CY,@CF,@CH⟩
def z0:Xs:=.mk 0 eB eB 0 []
def r0:Xr:=⟨0,eB,eB,0,none,0,0⟩
inductive PxO (s:ByteArray):Int→Nat→Xs→Prop
 |scan:(AV s).1≠0→PxO s (AV s).1 (AV s).2.1 z0
 |er {e:Int} {j:Nat} {x:LR}:(AV s).1=0→e≠0→Pr (AV s).2.2 (.lv 0) 0 (.er e j)→(AV s).2.2[j]? =some x→PxO s e x.a z0
 |more {t:Xs} {j:Nat} {x:LR}:(AV s).1=0→Pr (AV s).2.2 (.lv 0) 0 (.ok t j)→(AV s).2.2[j]? =some x→x.k≠0→PxO s 2 x.a z0
 |ok {t:Xs} {j:Nat} {x:LR}:(AV s).1=0→Pr (AV s).2.2 (.lv 0) 0 (.ok t j)→(AV s).2.2[j]? =some x→x.k=0→PxO s 0 0 t
theorem PxO.det{s:ByteArray}{e e':Int}{a a':Nat}{t t':Xs}(h:PxO s e a t)(h':PxO s e' a' t'):e=e'∧a=a'∧t=t':=by
 cases h with
 |scan h0=>cases h' with
  |scan=>exact⟨rfl,rfl,rfl⟩
  |er g0=>exact absurd g0 h0
  |more g0=>exact absurd g0 h0
  |ok g0=>exact absurd g0 h0
 | er h0 h1 h2 h3=>cases h' with
  |scan g0=>exact absurd h0 g0
  |er g0 g1 g2 g3=>
   cases h2.det g2
   rw[h3]at g3
   cases g3
   exact⟨rfl,rfl,rfl⟩
  |more g0 g1 g2 g3=>cases h2.det g1
  |ok g0 g1 g2 g3=>cases h2.det g1
 | more h0 h1 h2 h3=>cases h' with
  |scan g0=>exact absurd h0 g0
  |er g0 g1 g2 g3=>cases h1.det g2
  |more g0 g1 g2 g3=>
   cases h1.det g1
   rw[h2]at g2
   cases g2
   exact⟨rfl,rfl,rfl⟩
  |ok g0 g1 g2 g3=>
   cases h1.det g1
   rw[h2]at g2
   cases g2
   exact absurd g3 h3
 | ok h0 h1 h2 h3=>cases h' with
  |scan g0=>exact absurd h0 g0
  |er g0 g1 g2 g3=>cases h1.det g2
  |more g0 g1 g2 g3=>
   cases h1.det g1
   rw[h2]at g2
   cases g2
   exact absurd h3 g3
  |ok g0 g1 g2 g3=>
   cases h1.det g1
   exact⟨rfl,rfl,rfl⟩
theorem SG(A:AH)(s:ByteArray)(hs:s.size≤100000):Ak Tryz.prog 84 #[.string s] A (fun u_ A_=> ∃v B,u_=v∧(∃e at_ t r,PxO s e at_ t∧v=.tuple #[EG r,.int .i64 e,.int .i64 (at_:Nat)]∧ExR B t r)∧Dis B A∧SubA (B++A) A_):=by
 refine AQ ⟨Tryz.prog,84,Tryz.f84,20,[0,2,3,4,5,6,7],⟨[109],none⟩,[],_⟩ rfl (args:=[_]) Tryz.func84 rfl (by kernel_rfl) Tryz.ntmps84 (by simp) (by kernel_rfl) ?_
 intro ν fr;have nuE:=fr.nu
 have f0:=fr.2 0
 have f1:=fr.2 1
 have e01:(ν 1=ν 0)=False:=by simp[nuE]
 simp (maxDischargeDepth:=16) only[Af,↓Ae,simprocAttr,forall_const,nuE,fr.2,vbQg]
 have dst_:((ν 0=ν 1)=False)∧((ν 1=ν 0)=False):=(by simp[nuE]);generalize ν 0=n2 at dst_  f0 f1 e01 ⊢;generalize ν 1=xb at dst_  f0 f1 e01⊢
 clear nuE fr dst_
 refine Ak.toX (read_h [(xb,zX)] s hs 110 (.pointer (some ⟨xb,0,none⟩)) (fun e j=>Pr (AV s).2.2 (.lv 0) 0 (.er e j)) (fun j A'=> ∃t r,Pr (AV s).2.2 (.lv 0) 0 (.ok t j)∧ExR A' t r∧Vm.AA A' xb=some (xB r)) (by kernel_rfl) ?_) (SubA.left [_] _) ((n2,zX)::A) ?_ ?_ ?_
 ·intro pb cb lp lcap B h0 hp dB n1 n2
  have hpos:0<(AV s).2.2.length:=by
   obtain⟨K,hS,_⟩:=FU h0
   rw[hS];simp
  have hx:Vm.AA (PS pb cb lp lcap (AV s).2.2 0 B) xb=none:=by
   have m1:=(BE n1 (show Vm.AA [(xb,zX)] xb=some zX by simp[Vm.AA])).1
   have m2:=(BE n2 (show Vm.AA [(xb,zX)] xb=some zX by simp[Vm.AA])).1
   simp only[PS,Vm.AA,m1,m2,if_false]
   exact dB xb (by simp[Vm.AA])
  refine AZ.useX (pexE_h pb cb lp lcap (AV s).2.2 B hp 0 hpos xb hx) (SubA.both (X:=[(xb,zX)]) (Dis.one hx).symm.right (SubA.left (PS pb cb lp lcap (AV s).2.2 0 B) _)) [] (SubA.nil _) (fun x hx=>absurd rfl hx) ?_ ?_
  ·rintro ch D ⟨e,j,x,h1,h2,h3,h4,_⟩ _
   exact⟨[],SubA.nil _,e,j,x,h1,h2,h3,h4⟩
  ·rintro v D ⟨t,j,r,A',hq,hr,hj,hsub,hp',hxb,hD⟩ _
   have m3:=(hp'.far hxb).1
   have m4:=(hp'.far hxb).2
   have hxA:Vm.AA A' xb=none:=(show SubA A' (PS pb cb lp lcap (AV s).2.2 j A') from SubA.skip (by simp[Vm.AA,hp'.nc,hp'.ne]) (SubA.skip hp'.np (SubA.refl _))).none hxb
   refine⟨PS pb cb lp lcap (AV s).2.2 j (A'++[(xb,xB r)]), ?_,j,A'++[(xb,xB r)],⟨t,r,hq,hr.mono (SubA.left _ _),by rw[G0 hxA];simp[Vm.AA]⟩,hj, ?_,by rw[List.append_nil];exact SubA.refl _⟩
   ·refine SubA.trans (show SubA (PS pb cb lp lcap (AV s).2.2 j A'++[(xb,xB r)]) ([(xb,xB r)]++PS pb cb lp lcap (AV s).2.2 j A') from SubA.both (Dis.one hxb).right (SubA.left _ _)) hD
   ·exact⟨hp'.ne,hp'.en,Aj hp'.np (by simp[Vm.AA,m3.1]),Aj hp'.nc (by simp[Vm.AA,m4.1]),hp'.hL.mono (SubA.left _ _),hp'.hl,hp'.he⟩
 ·exact SubA.fresh (AY (eq_false fun h=>by rw[h]at e01;simp at e01) f1) (SubA.refl _)
 ·exact Dis.one (AY (eq_false fun h=>by rw[h]at e01;simp at e01) f1)
 ·rintro u D hu dD
  have h9:(∃(e:Int) (at_:Nat),e≠0∧PxO s e at_ z0∧u=.tuple #[.int .i64 e,.int .i64 (at_:Nat)])∨ ∃A' t r,PxO s 0 0 t∧ExR A' t r∧Vm.AA A' xb=some (xB r)∧u=.tuple #[.int .i64 0,.int .i64 0]∧SubA A' D:=by
   rcases hu with⟨h0,rfl,hD⟩|⟨h0,⟨e,j,x,h1,h2,h3,rfl⟩|⟨j,A',x,⟨t,r,hq,hr,hxb⟩,hx,⟨hk,rfl,hD⟩|⟨hk,rfl⟩⟩⟩
   ·exact .inl ⟨_,_,h0,.scan h0,rfl⟩
   ·exact .inl ⟨_,_,h1,.er h0 h1 h2 h3,rfl⟩
   ·exact .inr ⟨A',t,r,.ok h0 hq hx hk,hr,hxb,rfl,hD⟩
   ·exact .inl ⟨_,_,by decide,.more h0 hq hx hk,rfl⟩
  clear hu
  rcases h9 with⟨e,at_,he,hP,rfl⟩|⟨A',t,r,hP,hr,hxb,rfl,hD⟩
  ·refine⟨(n2,zX)::A,dD.right, ?_⟩
   have ne0:(e !=0)=true:=by simp[he]
   clear dD
   simp only[zX]
   intro ν fr;have nuE:=And.intro (fr.mem (b:=n2) (by simp)) (fr.nu)
   simp (maxDischargeDepth:=16) only[Af,↓Ae,simprocAttr,forall_const,nuE,fr.2,vbQg,ne0]
   exact⟨_,[],rfl,⟨e,at_,z0,r0,hP,rfl,ExR.leaf _ _ _ _ _ _ _⟩,Dis.nil _,SubA.fresh f0 (SubA.refl _)⟩
  ·have dD2:Dis A' ((n2,zX)::A):=dD.subl hD
   have f0':Vm.AA A' n2=none:=dD2 n2 (by simp[Vm.AA])
   have dA:Dis A' A:=Dis.subr dD2 (SubA.fresh f0 (SubA.refl _))
   have e10:(n2=xb)=False:=eq_false fun h=>by rw[h]at e01;simp at e01
   have fA:Vm.AA (A'++A) n2=none:=Aj f0' f0
   have lx:Vm.AA (A'++A) xb=some (xB r):=SubA.left A' A xb _ hxb
   refine⟨(n2,zX)::(A'++A), ?_, ?_⟩
   ·refine SubA.both (X:=[(n2,zX)]) (SubA.trans (SubA.left [_] A) dD.right) (SubA.both (SubA.trans hD (SubA.left _ _)) (SubA.trans (SubA.fresh f0 (SubA.refl _)) dD.right))
   ·clear dD hD dD2
    simp only[zX,xB]at lx⊢
    intro ν fr;have nuE:=And.intro (fr.mem (b:=n2) (by simp)) (fr.nu)
    simp (maxDischargeDepth:=16) only[Af,↓Ae,simprocAttr,forall_const,nuE,fr.2,vbQg,e10,lx]
    exact⟨_,A',rfl,⟨0,0,t,r,hP,rfl,hr⟩,dA,SubA.fresh fA (SubA.refl _)⟩
end Go.Proofs.YtfphceknmgadgaaGreatDoor
namespace Go.Proofs.YtfphceknmgadgaaGreatDoor
open Go.Vm
set_option maxHeartbeats 4000000
set_option maxRecDepth 20000
def H5(L M:List LR):Prop:= ∀i,D6 (Bp L i)=D6 (Bp M i)
theorem Cm{x y:LR}(h:D6 x=D6 y):x.k=y.k∧x.t=y.t∧x.n=y.n:=by simpa[D6]using h
theorem H5.of{L M:List LR}(h:L.map D6=M.map D6):H5 L M:=by
 intro i
 have hi:(L.map D6)[i]? =(M.map D6)[i]? :=by rw[h]
 rw[List.getElem?_map,List.getElem?_map]at hi
 unfold Bp
 rw[List.getD_eq_getElem?_getD,List.getD_eq_getElem?_getD]
 cases h1:L[i]? <;>cases h2:M[i]? <;>simp_all
theorem H5.symm{L M:List LR}(h:H5 L M):H5 M L:=fun i=>(h i).symm
section
variable {L M:List LR} (H:H5 L M)
include H
theorem H5.k(i:Nat):(Bp L i).k=(Bp M i).k:=(Cm (H i)).1
theorem H5.t(i:Nat):(Bp L i).t=(Bp M i).t:=(Cm (H i)).2.1
theorem H5.n(i:Nat):(Bp L i).n=(Bp M i).n:=(Cm (H i)).2.2
theorem H5.is(i:Nat)(k:Int)(t:ByteArray):Bs (Bp L i) k t=Bs (Bp M i) k t:=by unfold Bs;rw[H.k,H.t]
theorem H5.nm(i:Nat):JV (Bp L i)=JV (Bp M i):=by unfold JV;rw[H.k,H.t]
theorem H5.nu(i:Nat)(m:Int):M9 (Bp L i) m=M9 (Bp M i) m:=by unfold M9;rw[H.k,H.n]
theorem H5.op(l i:Nat):Fs l (Bp L i)=Fs l (Bp M i):=by unfold Fs;simp only[H.is]
theorem H5.cm(i:Nat):Hw (Bp L i)=Hw (Bp M i):=by unfold Hw;simp only[H.is]
theorem H5.in_(i:Nat):PJ (Bp L i)=PJ (Bp M i):=by unfold PJ;simp only[H.is]
theorem H5.un(i:Nat):FR (Bp L i)=FR (Bp M i):=by unfold FR;simp only[H.is,H.k,H.nm]
theorem H5.us(i:Nat):Mp L i=Mp M i:=by unfold Mp;simp only[H.is,H.nu,H.nm,H.t,H.n]
theorem Pr.key{q:Qr}{i:Nat}{r:Rz}(h:Pr L q i r):Pr M q i r:=by
 induction h with
 |opE a b _ ih=>exact .opE a b ih
 |opO a b _ _ ih1 ih2=>exact .opO a b ih1 ih2
 |lpN a=>rw[H.op]at a;exact .lpN a
 |lpE a _ ih=>rw[H.op]at a;exact .lpE a ih
 |lpO a _ _ ih1 ih2=>rw[H.op]at a;exact .lpO a ih1 ih2
 |cmE _ ih=>exact .cmE ih
 |cmN _ a b ih=>rw[H.cm]at a;rw[H.in_]at b;exact .cmN ih a b
 |cmF _ a _ ih1 ih2=>rw[H.cm]at a;exact .cmF ih1 a ih2
 |cmO _ a _ ih1 ih2=>rw[H.cm]at a;exact .cmO ih1 a ih2
 |inP _ a b c ih=>rw[H.cm]at a;rw[H.in_]at b;rw[H.is]at c;exact .inP ih a b c
 |inC _ a b c _ ih1 ih2=>rw[H.cm]at a;rw[H.in_]at b;rw[H.is]at c;exact .inC ih1 a b c ih2
 |chE _ ih=>exact .chE ih
 |chM _ a _ ih1 ih2=>rw[H.is]at a;exact .chM ih1 a ih2
 |chO _ a b ih=>rw[H.is]at a b;exact .chO ih a b
 |chB _ a b ih=>rw[H.is]at a b;exact .chB ih a b
 |unO a _ ih=>rw[H.un]at a;exact .unO a ih
 |unE a _ ih=>rw[H.un]at a;exact .unE a ih
 |usO a b=>rw[H.un]at a;rw[H.us]at b;exact .usO a b
 |usE a b c=>rw[H.un]at a;rw[H.us]at b;exact .usE a b c
 |paE a _ ih=>rw[H.un]at a;exact .paE a ih
 |paO a _ b ih=>rw[H.un]at a;rw[H.is]at b;exact .paO a ih b
 |paB a _ b ih=>rw[H.un]at a;rw[H.is]at b;exact .paB a ih b
 |nu a=>rw[H.un]at a;rw[H.n];exact .nu a
 |te a=>rw[H.un]at a;rw[H.t];exact .te a
 |na a=>rw[H.un]at a;rw[H.t];exact .na a
 |ba a=>rw[H.un]at a;exact .ba a
end
end Go.Proofs.YtfphceknmgadgaaGreatDoor
namespace Go.Proofs.YtfphceknmgadgaaGreatDoor
open Go.Vm
set_option maxHeartbeats 1000000
set_option maxRecDepth 20000
theorem EU{s:ByteArray}{i:Nat}(n:Nat)(h:s.size≤i):B8 s (n+1) i=(0,0,[Es s]):=by rw[B8,if_pos h]
theorem FK{s:ByteArray}{i:Nat}(n:Nat)(h: ¬s.size≤i)(he:(BV s i).e≠0):B8 s (n+1) i=((BV s i).e,i,[]):=by rw[B8,if_neg h,if_pos he]
theorem Ef{s:ByteArray}{i:Nat}(n:Nat)(h: ¬s.size≤i)(he:(BV s i).e=0){j:Nat}(hj:(BV s i).nx+Cs false (s.toList.drop (BV s i).nx)=j):B8 s (n+1) i=((B8 s n j).1,(B8 s n j).2.1,if(B8 s n j).1=0 then BV s i::(B8 s n j).2.2 else []):=by
 subst hj
 rw[B8,if_neg h,if_neg (by rw[he];simp)]
def shX(d:Nat)(x:LR):LR:={x with a:=x.a+d,nx:=x.nx+d}
theorem xt_pre{f:List UInt8}{s s':ByteArray}(h:s'.toList=f++s.toList)(i j:Nat):s'.extract (i+f.length) (j+f.length)=s.extract i j:=by
 apply Ey
 rw[FA,FA,h,List.drop_take,List.drop_take,List.drop_append,show i+f.length - f.length=i by omega,List.drop_eq_nil_of_le (by omega),List.nil_append]
 congr 1
 omega
theorem iZ{f:List UInt8}{s s':ByteArray}(h:s'.toList=f++s.toList)(i:Nat):BV s' (i+f.length)=if(BV s i).e=0 then shX f.length (BV s i)else BV s i:=by
 have hd: ∀k,s'.toList.drop (k+f.length)=s.toList.drop k:=fun k=>by rw[h,List.drop_append,List.drop_eq_nil_of_le (by omega),List.nil_append];congr 1;omega
 have hx:=xt_pre h
 have e2:i+f.length+2=i+2+f.length:=by omega
 have e1:i+f.length+1=i+1+f.length:=by omega
 unfold BV
 rw[hd]
 cases hl:s.toList.drop i with
 |nil=>simp[bad]
 | cons c l=>
  have ew:i+f.length+BW (c::l)=i+BW (c::l)+f.length:=by omega
  simp only[e2,e1,ew,hx]
  by_cases h1:Dk (c::l)=true
  ·simp only[h1,if_true];simp[shX]
  simp only[h1,if_false]
  by_cases h2:Ca c.toNat=true
  ·simp only[h2,if_true]
   by_cases h3:16<BW (c::l)
   ·simp[h3,bad]
   ·simp[h3,shX]
  simp only[h2,if_false]
  by_cases h3:BJ c.toNat=true
  ·simp only[h3,if_true]
   by_cases h4:(EO (s.extract i (i+BW (c::l))).toList).2≠0
   ·simp[h4,bad]
   ·simp[h4,shX]
  simp only[h3,if_false]
  by_cases h4:c.toNat=34
  ·simp only[h4,if_true,EX,e1,hd]
   cases Dh (s.toList.drop (i+1))with
   |none=>simp[bad]
   | some k=>
    by_cases h5:100<k
    ·simp[h5,bad]
    ·have e3:i+1+f.length+k=i+1+k+f.length:=by omega
     have e4:i+f.length+k+2=i+k+2+f.length:=by omega
     simp only[h5,if_false,e3,e4,hx]
     simp[shX]
  simp only[h4,if_false]
  by_cases h5:F0 c.toNat=true
  ·simp[h5,shX]
  ·simp[h5,bad]
def La(d:Nat)(x:LR):(Int×ByteArray×Int)×Nat:=(D6 x,x.a+d)
theorem cF{f:List UInt8}{s s':ByteArray}(h:s'.toList=f++s.toList): ∀(n' n i:Nat),s.size<i+n→s.size<i+n'→i≤s.size→(B8 s' n' (i+f.length)).1=(B8 s n i).1∧(B8 s' n' (i+f.length)).2.1=(if(B8 s n i).1=0 then(B8 s n i).2.1 else(B8 s n i).2.1+f.length)∧(B8 s' n' (i+f.length)).2.2.map (La 0)=(B8 s n i).2.2.map (La f.length):=by
 have hd: ∀k,s'.toList.drop (k+f.length)=s.toList.drop k:=fun k=>by rw[h,List.drop_append,List.drop_eq_nil_of_le (by omega),List.nil_append];congr 1;omega
 have hz:s'.size=s.size+f.length:=by rw[←Ah,h,List.length_append,Ah];omega
 intro n'
 induction n' with
 |zero=>intro n i h1 h2 h3;omega
 | succ n' ih=>
  intro n i h1 h2 h3
  cases n with
  |zero=>omega
  | succ n=>
   by_cases hi:s.size≤i
   ·rw[EU n hi,EU n' (by omega)]
    simp[La,D6,Es,hz]
   ·have hl:=iZ h i
    by_cases he:(BV s i).e=0
    ·rw[if_pos he]at hl
     obtain⟨g1,g2⟩:=Eo s i (by omega) he
     have en:(BV s' (i+f.length)).nx=(BV s i).nx+f.length:=by rw[hl];rfl
     have ee:(BV s' (i+f.length)).e=0:=by rw[hl];exact he
     have hk:=Fd false (s.toList.drop (BV s i).nx)
     rw[List.length_drop,Ah]at hk
     rw[Ef n hi he rfl,Ef n' (by omega) ee (j:=(BV s i).nx+Cs false (s.toList.drop (BV s i).nx)+f.length) (by rw[en,hd];omega),hl]
     obtain⟨q1,q2,q3⟩:=ih n ((BV s i).nx+Cs false (s.toList.drop (BV s i).nx)) (by omega) (by omega) (by omega)
     refine⟨q1,q2, ?_⟩
     simp only[q1]
     split
     ·simp only[List.map_cons,q3];simp[La,D6,shX]
     ·rfl
    ·rw[if_neg he]at hl
     have ee:(BV s' (i+f.length)).e=(BV s i).e:=by rw[hl]
     rw[FK n hi he,FK n' (by omega) (by rw[ee];exact he),ee]
     simp[he]
theorem Uu(r:List UInt8): ∀l,BW (l++10::r)=BW l
 | []=>by simp[BW,CA,Ca,BJ]
 |c::l=>by simp only[List.cons_append,BW,Uu r l]
theorem Tb(r:List UInt8): ∀l,Dh (l++10::r)=Dh l
 | []=>by simp[Dh,JZ]
 |c::l=>by simp only[List.cons_append,Dh,Tb r l]
theorem gq(c:UInt8)(l r:List UInt8):Dk (c::(l++10::r))=Dk (c::l):=by
 cases l with
 |nil=>simp[Dk,List.isPrefixOf]
 |cons d l=>simp[Dk,List.isPrefixOf]
theorem R0{r:List UInt8}{s s':ByteArray}(h:s'.toList=s.toList++r){i j:Nat}(hj:j≤s.size):s'.extract i j=s.extract i j:=by
 apply Ey
 rw[FA,FA,h,List.take_append_of_le_length (by rw[Ah];exact hj)]
theorem Xd: ∀{l:List UInt8} {k:Nat},Dh l=some k→k+1≤l.length
 | [],k,h=>by simp[Dh]at h
 | c::l,k,h=>by
  simp only[Dh]at h
  split at h
  ·cases h;simp
  ·split at h
   ·cases h
   ·split at h
    ·rename_i q hq;cases h;have:=Xd hq;simp;omega
    ·cases h
theorem dK{r:List UInt8}{s s':ByteArray}(h:s'.toList=s.toList++10::r)(i:Nat)(hi:i<s.size):BV s' i=BV s i:=by
 have hd: ∀k,k≤s.size→s'.toList.drop k=s.toList.drop k++10::r:=fun k hk=>by rw[h,List.drop_append_of_le_length (by rw[Ah];exact hk)]
 obtain⟨c,l,hl⟩:=EH hi
 have hlen:=congrArg List.length hl
 rw[List.length_drop,Ah,List.length_cons]at hlen
 have hw:=GO (c::l)
 rw[List.length_cons]at hw
 unfold BV
 rw[hd i (by omega),hl]
 have e5:c::l++10::r=c::(l++10::r):=rfl
 have e6:BW (c::(l++10::r))=BW (c::l):=Uu r (c::l)
 simp only[e5,gq,e6]
 rw[R0 h (j:=i+BW (c::l)) (by omega),R0 h (j:=i+1) (by omega)]
 by_cases h1:Dk (c::l)=true
 ·simp only[h1,if_true]
  have:0<l.length:=by
   simp only[Dk,Bool.or_eq_true]at h1
   rcases h1 with h1|h1<;>exact(Gs _ _ _ _ h1).2.2
  rw[R0 h (by omega)]
 have ht:EX s' i=EX s i:=by
  unfold EX
  rw[hd (i+1) (by omega),Tb]
  cases hq:Dh (s.toList.drop (i+1))with
  |none=>rfl
  |some k=>
   have:=Xd hq
   rw[List.length_drop,Ah]at this
   simp only
   rw[R0 h (by omega)]
 simp only[h1,if_false,ht,Bool.false_eq_true]
end Go.Proofs.YtfphceknmgadgaaGreatDoor
