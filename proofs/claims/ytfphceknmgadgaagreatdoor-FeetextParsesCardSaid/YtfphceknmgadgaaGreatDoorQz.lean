/-
Parse of the reference; the law.
Conditions: none.
-/
import Derived.Test.YtfphceknmgadgaaGreatDoorQw
import Derived.Test.YtfphceknmgadgaaGreatDoorQl
import Derived.Test.YtfphceknmgadgaaGreatDoorVmAF
import Derived.Test.YtfphceknmgadgaaGreatDoorQa
set_option linter.unusedSimpArgs false
set_option linter.unusedVariables false
namespace Go.Proofs.YtfphceknmgadgaaGreatDoor
open Go.Vm
set_option maxHeartbeats 4000000
set_option maxRecDepth 20000
theorem ET:type_of% (An @BC (An @BU (An @BS (An @Aw (An @BB (An @BT (An @Bn (An @BN (An @CA (An @CS (An @B9 (An @CR (An @Cm (An @CT (An @CC (An @Bp (An @Bq (An @CQ (An @Be (An @Br (An @CB (An @Bo (An @Bx (An @AU (An @AQ (An @Am (An @Ap (An @Ag (An @BG (An @Aj (An @At (An @Au (An @Ax (An @A4 (An @A5 (An @A7 (An @BA (An @Ce (An @Al (An @Ae (An @A9 (An @BP (An @BL (An @LL (An @Bs @C2))))))))))))))))))))))))))))))))))))))))))))):=⟨@BC,@BU,@BS,@Aw,@BB,@BT,@Bn,@BN,@CA,@CS,@B9,@CR,@Cm,@CT,@CC,@Bp,@Bq,@CQ,@Be,@Br,@CB,@Bo,@Bx,@AU,@AQ,@Am,@Ap,@Ag,@BG,@Aj,@At,@Au,@Ax,@A4,@A5,@A7,@BA,@Ce,@Al,@Ae,@A9,@BP,@BL,@LL,@Bs,@C2⟩
def Ex(s pl:ByteArray)(L:List LR)(us:List Fu)(i:Nat)(e w:Int):Prop:=e≠0∧ ∃a:Nat,FuE s pl L us i e a∧w=(a:Int)
section
variable {s pl:ByteArray} {L:List LR} {us:List Fu} {i0:Nat} {e w:Int} {i:Nat} {x:LR} {OK OK':Prop}
theorem Fv{c:Bool}(hi:i<L.length)(hx:L[i]? =some x)(he:Po L)(hk:c=true→x.k≠0)(h:(e=0∧w=0∧OK)∨Ex s pl L us i0 e w)(hok:OK→c=true→OK')(hbad:OK→c=false→FuE s pl L us i0 2 (DF L i)):
  ∃i' e' w',Da e c i=i'∧EP e c=e'∧D9 e w c x=w'∧i'<L.length∧((e'=0∧w'=0∧i'=i+1∧OK')∨Ex s pl L us i0 e' w'):=by
 have hxa:DF L i=x.a:=by unfold DF;rw[Ez hx]
 refine⟨_,_,_,rfl,rfl,rfl, ?_⟩
 rcases h with⟨rfl,rfl,ho⟩|⟨h1,h2⟩
 ·cases c with
  |true=>exact⟨by simp only[Da,and_self,if_true];exact DZ he hx (hk rfl),.inl ⟨rfl,by simp[D9],by simp[Da],hok ho rfl⟩⟩
  |false=>exact⟨by simp only[Da,Bool.false_eq_true,and_false,if_false];exact hi,.inr ⟨by decide,_,hbad ho rfl,by rw[hxa];simp[D9]⟩⟩
 ·exact⟨by simp only[Da,h1,false_and,if_false];exact hi,.inr ⟨by simp only[EP,if_neg h1];exact h1,by simp only[EP,D9,if_neg h1];exact h2⟩⟩
theorem e7{c h:Bool}(hi:i<L.length)(hx:L[i]? =some x)(he:Po L)(hk:c=true→x.k≠0)(hst:(e=0∧w=0∧OK)∨Ex s pl L us i0 e w)(hok:OK→c=true→h=false→OK')(hbad:OK→c=false→FuE s pl L us i0 2 (DF L i))(hbad7:OK→c=true→h=true→FuE s pl L us i0 7 (DF L i)):
  ∃i' e' w',Da e c i=i'∧YC e c h=e'∧ao e w c h x=w'∧i'<L.length∧((e'=0∧w'=0∧i'=i+1∧OK')∨Ex s pl L us i0 e' w'):=by
 have hxa:DF L i=x.a:=by unfold DF;rw[Ez hx]
 refine⟨_,_,_,rfl,rfl,rfl, ?_⟩
 rcases hst with⟨rfl,rfl,ho⟩|⟨h1,h2⟩
 ·cases c with
  |true=>
   refine⟨by simp only[Da,and_self,if_true];exact DZ he hx (hk rfl), ?_⟩
   cases h with
   |false=>exact .inl ⟨rfl,by simp[ao],by simp[Da],hok ho rfl rfl⟩
   |true=>exact .inr ⟨by decide,_,hbad7 ho rfl rfl,by rw[hxa];simp[ao]⟩
  |false=>exact⟨by simp only[Da,Bool.false_eq_true,and_false,if_false];exact hi,.inr ⟨by simp[YC],_,by simpa[YC]using hbad ho rfl,by rw[hxa];simp[ao]⟩⟩
 ·exact⟨by simp only[Da,h1,false_and,if_false];exact hi,.inr ⟨by simp only[YC,if_neg h1];exact h1,by simp only[YC,ao,if_neg h1];exact h2⟩⟩
theorem fC{A2:AH}{r:Xr}{i':Nat}{e' w':Int}(hst:(e=0∧w=0∧i=i0+3∧GJ L us i0=none∧OK)∨Ex s pl L us i0 e w)(hq:rW pl L i e w A2 r i' e' w'):
  (e'=0∧w'=0∧i'=exJ L (i0+3)∧GJ L us i0=none∧OK∧ ∃t,PxO (Pq pl L i0) 0 0 t∧ExR A2 t r)∨Ex s pl L us i0 e' w':=by
 rcases hst with⟨rfl,rfl,rfl,hH,ho⟩|h
 ·rcases hq with⟨h1,_⟩|⟨_,ee,a,t,hP,h⟩
  ·exact absurd rfl h1
  ·rcases h with⟨rfl,h1,h2,h3,h4⟩|⟨h1,h2,h3⟩
   ·obtain rfl:=hP.zero
    exact .inl ⟨h1,h2,h3,hH,ho,t,hP,h4⟩
   ·subst h2
    exact .inr ⟨h1,_,.x hH hP h1,h3⟩
 ·rcases hq with⟨h1,_,h2,h3⟩|⟨h1,_⟩
  ·rw[h2,h3];exact .inr h
  ·exact absurd h1 h.1
def cY(L:List LR)(b fx mn mx:Int)(k:Nat):Except Nat ((Int×Int×Int×Int)×Nat):=if BX (BR L k) 4 ⟨#[59]⟩=false then .error k else .ok ((b,fx,mn,mx),k+1)
def X4(L:List LR)(b fx mn:Int)(k:Nat):Except Nat ((Int×Int×Int×Int)×Nat):=match opN L 1 H3 k with
 | .error e=>.error e
 | .ok (mx,k3)=>cY L b fx mn mx k3
def XZ(L:List LR)(b fx:Int)(k:Nat):Except Nat ((Int×Int×Int×Int)×Nat):=match opN L 1 H8 k with
 | .error e=>.error e
 | .ok (mn,k2)=>X4 L b fx mn k2
def bK(L:List LR)(b:Int)(k:Nat):Except Nat ((Int×Int×Int×Int)×Nat):=match opN L 4 ⟨#[43]⟩ k with
 | .error e=>.error e
 | .ok (fx,k1)=>XZ L b fx k1
theorem Yn{j:Nat}(h1:FX (BR L j)=true):fuT s L j=match WR s L (j+1)with
  | .error k=>.error k
  | .ok b=>bK L b (j+3):=by
 unfold fuT WR
 rw[if_neg (by rw[h1];simp)]
 by_cases h2:(BR L (j+1)).k≠2
 ·rw[if_pos h2,if_pos h2]
 ·rw[if_neg h2,if_neg h2]
  by_cases h3:BX (BR L (j+2)) 4 ⟨#[37]⟩=false
  ·rw[if_pos h3,if_pos (show BX (BR L (j+1+1)) 4 ⟨#[37]⟩=false from h3)]
  ·rw[if_neg h3,if_neg (show¬BX (BR L (j+1+1)) 4 ⟨#[37]⟩=false from h3)]
   show(match X6 (s.extract (DF L (j+1)) (DF L (j+2)+1)).toList with
    |none=>_
    |some b=>_)=_
   cases X6 (s.extract (DF L (j+1)) (DF L (j+1+1)+1)).toList with
   |none=>rfl
   |some b=>rfl
theorem fH{i':Nat}{e' w' v:Int}(hst:(e=0∧w=0∧OK)∨Ex s pl L us i0 e w)(hq:rJ s L i e w i' e' w' v)(hok:OK→WR s L i=.ok v→i'=i+2→OK')(hbad: ∀k,OK→WR s L i=.error k→FuE s pl L us i0 2 (DF L k)):
  i'<L.length∧((e'=0∧w'=0∧OK')∨Ex s pl L us i0 e' w'):=by
 obtain⟨hi,q1,q2⟩:=hq
 refine⟨hi, ?_⟩
 rcases hst with⟨rfl,rfl,ho⟩|h
 ·have q:=q2 rfl
  cases hp:WR s L i with
  |error k=>rw[hp]at q;exact .inr ⟨by rw[q.1];decide,_,by rw[q.1];exact hbad k ho hp,q.2⟩
  |ok b=>rw[hp]at q;exact .inl ⟨q.2.1,q.2.2.1,hok ho (by rw[hp,q.2.2.2]) q.1⟩
 ·obtain⟨_,h1,h2⟩:=q1 h.1
  rw[h1,h2];exact .inr h
theorem Yr{kk:Int}{wd:ByteArray}{tb:Bool}(hx:L[i]? =some x)(h:E7 e x kk wd=tb)(ht:tb=false)(he:e=0):opN L kk wd i=.ok (0,i):=by
 subst ht
 unfold opN
 rw[Ez hx,if_neg (by rw[E7,he]at h;simpa using h)]
theorem TZ{kk:Int}{wd:ByteArray}{y:LR}(hx:L[i]? =some x)(h:BX x kk wd=true)(hy:L[i+1]? =some y)(hn:N7 y=true):opN L kk wd i=.ok (y.n,i+2):=by
 unfold opN
 rw[Ez hx,if_pos h,Ez hy,if_pos (by simpa[N7]using hn)]
theorem T2{kk:Int}{wd:ByteArray}{y:LR}(hx:L[i]? =some x)(h:BX x kk wd=true)(hy:L[i+1]? =some y)(hn:N7 y=false):opN L kk wd i=.error (i+1):=by
 unfold opN
 rw[Ez hx,if_pos h,Ez hy,if_neg (by simpa[N7]using hn)]
end
theorem Zo{x:LR}(h:N7 x=true):x.k≠0:=by simp only[N7,decide_eq_true_eq]at h;rw[h];decide
theorem qa{x:LR}(h:F6 x=true):x.k≠0:=by unfold F6 at h;simp only[Bool.and_eq_true,decide_eq_true_eq]at h;rw[h.1];decide
theorem mZ{a b c:Prop}[Decidable a][Decidable b][Decidable c]{F:Prop}{P:Program}{f:FuncId}{args:Array Value}(n0:Nat){MM:Nat→AH}{K:Nat→Nu→Nat→Value→AH→Prop}(Rel:Nat→AH→Prop)(key: ∀n M1,Rel n M1→G8 P f args M1 (K n))(ht:a∧b∧c→(∀n M1,Rel n M1→G8 P f args M1 (K n))→F)(he: ¬(a∧b∧c)→Rel n0 (MM n0)):if a then(if b then(if c then F else G8 P f args (MM n0) (K n0))else G8 P f args (MM n0) (K n0))else G8 P f args (MM n0) (K n0):=by
 by_cases ha:a
 ·rw[if_pos ha]
  by_cases hb:b
  ·rw[if_pos hb]
   by_cases hc:c
   ·rw[if_pos hc];exact ht ⟨ha,hb,hc⟩ key
   ·rw[if_neg hc];exact key _ _ (he fun h=>hc h.2.2)
  ·rw[if_neg hb];exact key _ _ (he fun h=>hb h.2.1)
 ·rw[if_neg ha];exact key _ _ (he fun h=>ha h.1)
theorem UA{a:Prop}[Decidable a]{F:Prop}{P:Program}{f:FuncId}{args:Array Value}{M:AH}{K:Nu→Nat→Value→AH→Prop}(Rel:AH→Prop)(key: ∀M1,Rel M1→G8 P f args M1 K)(ht:a→(∀M1,Rel M1→G8 P f args M1 K)→F)(he: ¬a→Rel M):if a then F else G8 P f args M K:=by
 by_cases ha:a
 ·rw[if_pos ha];exact ht ha key
 ·rw[if_neg ha];exact key _ (he ha)
theorem P3{rb:Nat}{s pl:ByteArray}{bk off cap:Nat}{L:List LR}{i:Nat}{e w:Int}{A:AH}(h:Vm.AA A rb=none):SubA A (RQ rb s pl bk off cap L i e w A):=SubA.skip h (SubA.refl _)
theorem og{rb:Nat}{s pl:ByteArray}{bk off cap:Nat}{L:List LR}{i:Nat}{e w:Int}{A:AH}{n:Nat}(h:Vm.AA (RQ rb s pl bk off cap L i e w A) n=none):((n=rb)=False)∧((rb=n)=False):=
 BF h (show Vm.AA (RQ rb s pl bk off cap L i e w A) rb=some (FY s pl bk off L.length cap i e w) by simp[RQ,Vm.AA])
theorem Tv{rb:Nat}{s pl:ByteArray}{bk off cap:Nat}{L:List LR}{i i':Nat}{e e' w w':Int}{A B:AH}(h:Dis (RQ rb s pl bk off cap L i e w A) B):Dis (RQ rb s pl bk off cap L i' e' w' A) B:=fun x hx=>Di (h x hx)
end Go.Proofs.YtfphceknmgadgaaGreatDoor
namespace Go.Proofs.YtfphceknmgadgaaGreatDoor
open Go.Vm
set_option maxHeartbeats 8000000
set_option maxRecDepth 20000
theorem aq(A:AH)(s:ByteArray)(hs:s.size≤100000):AM Tryz.prog 8 #[.string s] A (fun u_ A_=> ∃v B,u_=v∧oS s v B∧Dis B A∧SubA (B++A) A_):=by
 refine AR ⟨Tryz.prog,8,Tryz.f8,121,[0,2,3,4,5,6,7,8,9,10,11],⟨[22,23,24,28,25,26,27,29],none⟩,[(26,.q false)],_⟩ rfl (args:=[_]) Tryz.func8 rfl (by kernel_rfl) Tryz.ntmps8 (by simp) (by kernel_rfl) ?_
 intro ν fr;have nuE:=fr.nu
 simp (maxDischargeDepth:=16) only[AX,↓AW,simprocAttr,forall_const,nuE,fr.2,ET,hs]
 clear nuE fr
 refine AM.newX (VJ A (Cc s) (by rw[Dp];exact hs)) (SubA.refl A) ?_
 rintro v B ⟨w,rfl,ho⟩ dBA
 by_cases h0:(AV (Cc s)).1=0
 rotate_left
 ·refine⟨A,dBA.right, ?_⟩
  have ne0:((AV (Cc s)).1 !=0)=true:=by simp[h0]
  intro ν fr;have nuE:=fr.nu
  simp (maxDischargeDepth:=16) only[AX,↓AW,simprocAttr,forall_const,nuE,fr.2,ET,ne0]
  exact⟨_,[],rfl,⟨_,_,[],none,0,.scan h0,by simp,by simp,rfl,[],rfl,.inl rfl,fun k u r h=>by simp at h⟩,Dis.nil _,SubA.refl _⟩
 obtain⟨p,cap,rfl,hc1,hL⟩:=Cq.read (f:=LR.cells) (n:=4) (fun x=>rfl) ho
 refine⟨B++A,SubA.refl _, ?_⟩
 obtain⟨K,hSK,hwf,hsz,hlen⟩:=EO h0
 have hend:=Jh h0
 have hpos:0<(AV (Cc s)).2.2.length:=by rw[hSK];simp
 rw[Dp]at hsz
 intro ν fr;have nuE:=fr.nu
 have fb:Vm.AA (B++A) (ν 0)=none:=fr.2 0
 simp (maxDischargeDepth:=16) only[AX,↓AW,simprocAttr,forall_const,nuE,fr.2,ET,h0]
 have dst_:True:=(by simp[nuE]);generalize ν 0=rb at dst_  fb⊢
 clear nuE fr dst_
 have fbB:Vm.AA B rb=none:=(SubA.left B A).none fb
 have fbA:Vm.AA A rb=none:=dBA.right.none fb
 obtain⟨x0,hx0,_⟩:=Bw hpos
 obtain⟨bk,off,cs0,ty0,fz0,rfl,_,_,_⟩:=hL.at hx0
 obtain⟨pl,hpl⟩: ∃pl,Cc s=pl:=⟨_,rfl⟩
 obtain⟨L,hLd⟩: ∃L,(AV (Cc s)).2.2=L:=⟨_,rfl⟩
 have hp:RqOk rb s pl bk off cap L B:=by
  refine⟨fbB,by rw[←hLd];exact hL,by rw[←hLd];omega,by rw[←hLd];exact hc1,by rw[←hLd];exact hend,by rw[←hpl];exact(Dp s).symm,hsz,fun i x hx hk=> ?_,fun i j x y hij hx hy=> ?_⟩
  ·rw[←hLd,hSK]at hx
   rcases List.mem_append.1 (List.mem_of_getElem? hx)with h|h
   ·exact SB (hwf x h) hk
   ·simp only[List.mem_singleton]at h;rw[h]at hk;cases hk
  ·rw[←hLd]at hx hy
   obtain⟨g1,g2⟩:=Oa h0 hij hx hy
   rw[Dp]at g2
   refine⟨g1,g2,fun hk=> ?_⟩
   have:=J7 h0 y (List.mem_of_getElem? hy) hk
   rw[Dp]at this;exact this
 have PO: ∀us j,FlO s pl L [] 0 us j→PfO s 0 0 us:=fun us j h=>.ok h0 (by rw[hLd,hpl];exact h)
 have PE: ∀(e:Int) (a:Nat),FlE s pl L [] 0 e a→PfO s e a []:=fun e a h=>.er h0 (by rw[hLd,hpl];exact h)
 rw[hLd]at hpos⊢
 rw[hpl]
 clear hSK ho hL hlen hend hwf hsz hLd h0 hpl hx0 hc1
 obtain⟨us,rs,v,Q,i,e,w,A',hv,hQ,hi0,he0,hw0,hA0,ho2,hi,hp',dQA,dPX,hb,hst⟩: ∃(us:List Fu) (rs:List Fuv) (v:Value) (Q:AH) (i:Nat) (e w:Int) (A':AH),v=.slice none 0 0∧Q=[]∧i=0∧e=0∧w=0∧A'=B∧Cq Fo 10 38 v Q rs∧i<L.length∧RqOk rb s pl bk off cap L A'∧Dis Q A∧Dis (RQ rb s pl bk off cap L i e w A') (Q++A)∧rs.length≤65∧
   ((e=0∧w=0∧rs.length=us.length∧rs.map Fuv.nm=us.map Fu.nm∧NK A' us rs∧us.length≤64∧(∀vs k,FlO s pl L us i vs k→FlO s pl L [] 0 vs k)∧ ∀e a,FlE s pl L us i e a→FlE s pl L [] 0 e a)∨(e≠0∧ ∃a:Nat,FlE s pl L [] 0 e a∧w=(a:Int))):=
  ⟨[],[],_,[],0,0,0,B,rfl,rfl,rfl,rfl,rfl,rfl,Cq.nil _ _ _,hpos,hp,Dis.nil _,fun x hx=>by
   have h1:=dBA x hx
   have h2:rb≠x:=fun e=>hx (by rw[←e];exact fbA)
   simp only[RQ,Vm.AA,if_neg h2];exact h1,by simp,.inl ⟨rfl,rfl,rfl,rfl,fun k u r h=>by simp at h,by simp,fun _ _ h=>h,fun _ _ h=>h⟩⟩
 rw[show(10,some (Value.slice none 0 0))=(10,some v) by rw[hv]]
 refine Ah.at (A:=RQ rb s pl bk off cap L i e w (A'++(Q++A))) (by rw[hQ,hi0,he0,hw0,hA0];exact SubA.refl _) ?_
 clear hv hQ hi0 he0 hw0 hA0 hp hpos fb fbB dBA
 generalize hm:(if e=0 then L.length - i+1 else 0)=m
 induction m using Nat.strongRecOn generalizing us rs v Q i e w A' with
 | ind m ih=>
  obtain⟨q,qcap,rfl,hqc,hS⟩:=Cq.read (f:=Fo) (n:=10) P2 ho2
  obtain⟨x,hx,hlx⟩:=Bw hi
  have hXr:Vm.AA (Q++A) rb=none:=dPX.symm rb (by simp[RQ,Vm.AA])
  have hnM:Vm.AA (A'++(Q++A)) rb=none:=AJ hp'.nr hXr
  have hpM:RqOk rb s pl bk off cap L (A'++(Q++A)):=hp'.mono (SubA.left _ _) hnM
  obtain⟨cs,ty,frz,h⟩:=hpM.at hx
  have hl:=hpM.hl
  have hc:=hpM.hc
  have lt:((0:Int)<((L.length - i:Nat):Int))=True:=eq_true (by omega)
  have dA'X:Dis A' (Q++A):=Dis.subl dPX (P3 hp'.nr)
  have sA:SubA A (A'++(Q++A)):=SubA.trans dQA.right dA'X.right
  have sAll: ∀o:Obj,SubA (A'++(Q++A)) ((rb,o)::(A'++(Q++A))):=fun o=>SubA.fresh hnM (SubA.refl _)
  simp only[RQ,FY]
  refine Ah.intro (by kernel_rfl) ?_
  intro ν fr;have nuE:=And.intro (fr.mem (b:=rb) (by simp)) (fr.nu)
  rcases hst with⟨rfl,rfl,hrl,hnm,hall,h64,hO,hE⟩|⟨he,a,h1,h3⟩
  rotate_left
  ·have hen:(e !=0)=true:=by simp[he]
   have heb:(e==0)=false:=by simp[he]
   simp (maxDischargeDepth:=16) only[AX,↓AW,simprocAttr,forall_const,nuE,fr.2,ET,eq_false he,hen,heb]
   rw[h3]
   exact⟨_,[],rfl,⟨e,a,[],none,0,PE _ _ h1,by simp,by simp,rfl,[],rfl,.inl rfl,fun k u r h=>by simp at h⟩,Dis.nil _,SubA.trans sA (sAll _)⟩
  by_cases hk:x.k=0
  ·have hk':(x.k !=0)=false:=by simp[hk]
   simp (maxDischargeDepth:=16) only[AX,↓AW,simprocAttr,forall_const,nuE,fr.2,ET,lt,h.hb,h.n1,h.n2,h.c0,hk,hk']
   have hsub:SubA (A'++Q) ((rb,FY s pl bk off L.length cap i 0 0)::(A'++(Q++A))):=SubA.trans (SubA.app (SubA.left Q A)) (sAll _)
   simp only[FY]at hsub
   have hdis:Dis (A'++Q) A:=Dis.app (dA'X.subr dQA.right) dQA
   rw[hrl]
   exact⟨_,A'++Q,rfl,⟨0,0,us,q,qcap,PO _ _ (hO _ _ (.fin (by rw[hlx];exact hk))),h64,by omega,rfl,rs,hrl,hS.mono (Dis.right (Dis.subr dA'X (SubA.left Q A))),hall.mono (SubA.left _ _)⟩,hdis,by
    rw[List.append_assoc];exact sAll _⟩
  have hk':(x.k !=0)=true:=by simp[hk]
  have c1:((64:Int)≤(rs.length:Int))=(64≤us.length):=propext (by omega)
  have c2:(BX x 1 D8=true)=(x.k=1∧x.t.toList=ByteArray.toList ⟨#[102,101,101]⟩):=by simp[BX,D8]
  have f10:=fr.2 0
  simp (maxDischargeDepth:=16) only[AX,↓AW,simprocAttr,forall_const,nuE,fr.2,ET,lt,h.hb,h.n1,h.n2,h.c0,h.c1,eq_false hk,hk',c1]
  have dst_:((ν 0=rb)=False)∧((rb=ν 0)=False):=(by simp[nuE]);generalize ν 0=n9 at dst_  f10⊢
  clear nuE fr dst_
  apply mZ n9 (fun n M1=> ∃e1 w1,Vm.AA (RQ rb s pl bk off cap L i e1 w1 (A'++(Q++A))) n=none∧M1=[(n,.cells #[.string ⟨#[]⟩,.int .i64 0,.string ⟨#[]⟩,.string ⟨#[]⟩,.int .i64 0,.slice none 0 0,.int .i64 0,.int .i64 0,.int .i64 0,.int .i64 0] 38)]++RQ rb s pl bk off cap L i e1 w1 (A'++(Q++A))∧((e1=0∧w1=0∧ ¬(64≤us.length∧BX (BR L i) 1 D8=true))∨Ex s pl L us i e1 w1))
  rotate_left
  ·rintro⟨h6,hx1,hx2⟩ key
   have hb6:64≤us.length∧BX (BR L i) 1 D8=true:=⟨h6,by rw[hlx,c2];exact⟨hx1,hx2⟩⟩
   refine AM.useX (EL rb s pl bk off cap L _ hpM i x hx 0 0 3) (SubA.refl _) [] (SubA.nil _) (fun x hx=>absurd rfl hx) ?_
   rintro v D ⟨rfl,hD⟩ dD
   refine⟨_,hD, ?_⟩
   rw[List.append_nil]
   clear hD dD D
   have hbe:Ex s pl L us i (E8 0 3) (G3 0 0 x):=⟨by decide,_,.h (by unfold GJ;rw[if_pos hb6];rfl),by unfold DF;rw[hlx];rfl⟩
   generalize E8 0 3=e1 at hbe⊢
   generalize G3 0 0 x=w1 at hbe⊢
   have ky:=fun n g=>key n _ ⟨e1,w1,g,rfl,.inr hbe⟩
   clear key
   simp only[RQ,FY,List.cons_append,List.nil_append]at ky⊢
   intro ν fr;have nuE:=And.intro (fr.mem (b:=rb) (by simp)) (fr.nu)
   have f11:=fr.2 0
   simp (maxDischargeDepth:=16) only[AX,↓AW,simprocAttr,forall_const,nuE,fr.2,ET]
   exact ky _ f11
  ·intro hn
   exact⟨0,0,f10,rfl,.inl ⟨rfl,rfl,fun hb=>hn ⟨hb.1,by rw[←c2,←hlx];exact hb.2⟩⟩⟩
  clear f10
  rintro n10 _ ⟨e1,w1,g10,rfl,hS1⟩
  obtain⟨d10,d10b⟩:=og g10
  refine AM.ownX (Y:=[(n10,_)]) (JN rb s pl bk off cap L _ hpM i x hx e1 w1 1 D8 (by decide)) (Dis.one g10).symm ?_
  rintro v D ⟨rfl,hD⟩ dD
  refine⟨_,hD, ?_⟩
  clear hD dD D
  obtain⟨i2,e2,w2,ei,ee,ew,hi2,hS2⟩:=Fv (s:=s) (pl:=pl) (us:=us) (i0:=i) (OK:= ¬(64≤us.length∧BX (BR L i) 1 D8=true)) (OK':=(¬(64≤us.length∧BX (BR L i) 1 D8=true))∧BX (BR L i) 1 D8=true) (c:=BX x 1 D8) hi hx hpM.he (fun hc=>by rw[Bu hc];decide) hS1 (fun h hc=>⟨h,by rw[hlx];exact hc⟩) (fun h hc=>.h (by unfold GJ;rw[if_neg h,if_pos (by rw[hlx];exact hc)]))
  rw[ei,ee,ew]
  clear ei ee ew hS1
  obtain⟨x2,hx2,hlx2⟩:=Bw hi2
  simp only[RQ,FY,List.cons_append,List.nil_append]
  intro ν fr;have nuE:=And.intro (fr.mem (b:=n10) (by simp)) (And.intro (fr.mem (b:=rb) (by simp)) (fr.nu))
  simp (maxDischargeDepth:=16) only[AX,↓AW,simprocAttr,forall_const,nuE,fr.2,ET,d10,d10b]
  clear nuE fr
  have hSM:ES Fo 10 (A'++(Q++A)) q rs:=hS.mono (SubA.trans (SubA.left Q A) dA'X.right)
  refine AM.ownX (Y:=[(n10,_)]) (fu rb s pl bk off cap L _ hpM i2 x2 hx2 e2 w2 q qcap rs hSM (by omega)) (Dis.one (Di g10)).symm ?_
  rintro v D ⟨rfl,hD⟩ dD
  refine⟨_,hD, ?_⟩
  clear hD dD D
  have fT:FC x2.t rs=G2 x2.t us:=Pv (nm:=x2.t) hnm
  obtain⟨u1,hu1⟩: ∃u1,(if e2=0∧F6 x2=true then x2.t else eB)=u1:=⟨_,rfl⟩
  rw[hu1]
  have hS3:(e2=0∧w2=0∧e2=0∧i2=i+1∧(¬(64≤us.length∧BX (BR L i) 1 D8=true))∧BX (BR L i) 1 D8=true)∨Ex s pl L us i e2 w2:=by
   rcases hS2 with⟨a,b,c⟩|h
   ·exact .inl ⟨a,b,a,c⟩
   ·exact .inr h
  clear hS2
  obtain⟨i4,e4,w4,ei,ee,ew,hi4,hS4⟩:=e7 (c:=F6 x2) (h:=FC x2.t rs) (OK':=i2=i+1∧(¬(64≤us.length∧BX (BR L i) 1 D8=true))∧BX (BR L i) 1 D8=true∧F6 (BR L (i+1))=true∧G2 (BR L (i+1)).t us=false∧(BR L (i+1)).t=u1) hi2 hx2 hpM.he (fun hc=>qa hc) hS3 (fun⟨h0,h1,h2,h3⟩ hc hh=>by
   subst h1
   rw[hlx2]
   exact⟨rfl,h2,h3,hc,by rw[←fT];exact hh,by rw[←hu1,if_pos ⟨h0,hc⟩]⟩) (fun⟨h0,h1,h2,h3⟩ hc=>by
   subst h1
   exact .h (by unfold GJ;rw[if_neg h2,if_neg (by rw[h3];decide),hlx2,if_pos hc])) (fun⟨h0,h1,h2,h3⟩ hc hh=>by
   subst h1
   exact .h (by unfold GJ;rw[if_neg h2,if_neg (by rw[h3];decide),hlx2,if_neg (by rw[hc];decide),if_pos (by rw[←fT];exact hh)]))
  rw[ei,ee,ew]
  clear ei ee ew hS3 hu1 fT hSM
  obtain⟨x4,hx4,hlx4⟩:=Bw hi4
  simp only[RQ,FY,List.cons_append,List.nil_append]
  intro ν fr;have nuE:=And.intro (fr.mem (b:=n10) (by simp)) (And.intro (fr.mem (b:=rb) (by simp)) (fr.nu))
  simp (maxDischargeDepth:=16) only[AX,↓AW,simprocAttr,forall_const,nuE,fr.2,ET,d10,d10b]
  clear nuE fr
  refine AM.ownX (Y:=[(n10,_)]) (JN rb s pl bk off cap L _ hpM i4 x4 hx4 e4 w4 1 ⟨#[119,104,101,110]⟩ (by decide)) (Dis.one (Di g10)).symm ?_
  rintro v D ⟨rfl,hD⟩ dD
  refine⟨_,hD, ?_⟩
  clear hD dD D
  obtain⟨i5,e5,w5,ei,ee,ew,hi5,hS5⟩:=Fv (c:=BX x4 1 ⟨#[119,104,101,110]⟩) (OK':=i4=i+2∧GJ L us i=none∧(BR L (i+1)).t=u1) hi4 hx4 hpM.he (fun hc=>by rw[Bu hc];decide) hS4 (fun⟨h1,h2,h3,h4,h5,h6,h7⟩ hc=>by
   subst h1 h2
   exact⟨rfl,by unfold GJ;rw[if_neg h3,if_neg (by rw[h4];decide),if_neg (by rw[h5];decide),if_neg (by rw[h6];decide),if_neg (by rw[show i+2=i+1+1 from rfl,hlx4,hc];decide)],h7⟩) (fun⟨h1,h2,h3,h4,h5,h6,h7⟩ hc=>by
   subst h1 h2
   exact .h (by unfold GJ;rw[if_neg h3,if_neg (by rw[h4];decide),if_neg (by rw[h5];decide),if_neg (by rw[h6];decide),if_pos (by rw[show i+2=i+1+1 from rfl,hlx4];exact hc)]))
  rw[ei,ee,ew]
  clear ei ee ew hS4
  have hS6:(e5=0∧w5=0∧i5=i+3∧GJ L us i=none∧(BR L (i+1)).t=u1)∨Ex s pl L us i e5 w5:=by
   rcases hS5 with⟨a,b,c,d,f⟩|h
   ·exact .inl ⟨a,b,by omega,f⟩
   ·exact .inr h
  clear hS5
  simp only[RQ,FY,List.cons_append,List.nil_append]
  intro ν fr;have nuE:=And.intro (fr.mem (b:=n10) (by simp)) (And.intro (fr.mem (b:=rb) (by simp)) (fr.nu))
  simp (maxDischargeDepth:=16) only[AX,↓AW,simprocAttr,forall_const,nuE,fr.2,ET,d10,d10b]
  clear nuE fr
  have g10E:Vm.AA (RQ rb s pl bk off cap L i5 e5 w5 A') n10=none:=(SubA.left (RQ rb s pl bk off cap L i5 e5 w5 A') (Q++A)).none (Di g10)
  have g10X:Vm.AA (Q++A) n10=none:=(Tv (i':=i) (e':=e1) (w':=w1) dPX).right.none g10
  refine AM.par (E:=RQ rb s pl bk off cap L i5 e5 w5 A') (Y:=[(n10,_)]) (X:=Q++A) (fM rb s pl bk off cap L A' hp' i5 hi5 e5 w5) (Dis.one g10E).symm (Tv dPX) (Dis.one g10X) ?_
  rintro v D ⟨r,i8,e8,w8,A2,rfl,hi8,hsA,hn2,hq,hD⟩ dD
  refine⟨_,hD, ?_⟩
  have h10:Vm.AA (RQ rb s pl bk off cap L i8 e8 w8 A2) n10=none:=hD.none (dD n10 (by simp[Vm.AA]))
  have dP2:Dis (RQ rb s pl bk off cap L i8 e8 w8 A2) (Q++A):=Dis.subr (dD.subl hD) (SubA.fresh g10X (SubA.refl _))
  clear hD dD D g10E
  have hp2:RqOk rb s pl bk off cap L A2:=hp'.mono hsA hn2
  have hpM2:RqOk rb s pl bk off cap L (A2++(Q++A)):=hp2.mono (SubA.left _ _) (AJ hn2 hXr)
  have g2:Vm.AA (RQ rb s pl bk off cap L i8 e8 w8 (A2++(Q++A))) n10=none:=AJ h10 g10X
  have hS8:=fC hS6 hq
  clear hS6 hq
  obtain⟨x8,hx8,hlx8⟩:=Bw hi8
  simp only[RQ,FY,C5,Ck,List.cons_append,List.nil_append]
  intro ν fr;have nuE:=And.intro (fr.mem (b:=n10) (by simp)) (And.intro (fr.mem (b:=rb) (by simp)) (fr.nu))
  simp (maxDischargeDepth:=16) only[AX,↓AW,simprocAttr,forall_const,nuE,fr.2,ET,d10,d10b]
  clear nuE fr
  refine AM.ownX (Y:=[(n10,_)]) (JN rb s pl bk off cap L (A2++(Q++A)) hpM2 i8 x8 hx8 e8 w8 4 ⟨#[58]⟩ (by decide)) (Dis.one (Di g2)).symm ?_
  rintro v D ⟨rfl,hD⟩ dD
  refine⟨_,hD, ?_⟩
  clear hD dD D
  obtain⟨i9,e9,w9,ei,ee,ew,hi9,hS9⟩:=Fv (c:=BX x8 4 ⟨#[58]⟩) (OK':=i8=(exJ L (i+3))∧FX (BR L (exJ L (i+3)))=true∧GJ L us i=none∧(BR L (i+1)).t=u1∧ ∃t,PxO (Pq pl L i) 0 0 t∧ExR A2 t r) hi8 hx8 hpM2.he (fun hc=>by rw[Bu hc];decide) hS8 (fun⟨h1,h2,h3,h4⟩ hc=>⟨h1,by rw[←h1,hlx8];exact hc,h2,h3,h4⟩) (fun⟨h1,h2,h3,t,h4,h5⟩ hc=>by
   rw[h1]
   exact .t h2 h4 (by unfold fuT;rw[if_pos (by rw[←h1,hlx8];exact hc)]))
  rw[ei,ee,ew]
  clear ei ee ew hS8
  obtain⟨x9,hx9,hlx9⟩:=Bw hi9
  simp only[RQ,FY,List.cons_append,List.nil_append]
  intro ν fr;have nuE:=And.intro (fr.mem (b:=n10) (by simp)) (And.intro (fr.mem (b:=rb) (by simp)) (fr.nu))
  simp (maxDischargeDepth:=16) only[AX,↓AW,simprocAttr,forall_const,nuE,fr.2,ET,d10,d10b]
  clear nuE fr
  refine AM.ownX (Y:=[(n10,_)]) (nE rb s pl bk off cap L (A2++(Q++A)) hpM2 i9 x9 hx9 e9 w9) (Dis.one (Di g2)).symm ?_
  rintro v D ⟨i10,e10,w10,b,rfl,hq,hD⟩ dD
  refine⟨_,hD, ?_⟩
  clear hD dD D
  obtain⟨hi10,hS10⟩:=fH (OK':=fuT s L (exJ L (i+3))=bK L b i10∧GJ L us i=none∧(BR L (i+1)).t=u1∧ ∃t,PxO (Pq pl L i) 0 0 t∧ExR A2 t r) hS9 hq (fun⟨h1,h2,h3,h4⟩ hp hi=>by
   refine⟨?_,h4⟩
   rw[Yn h3,←h2,←h1,hp,hi,h1,h2]) (fun k ⟨h1,h2,h3,h4,h5,t,h6,h7⟩ hp=>by
   refine .t h4 h6 ?_
   rw[Yn h3,←h2,←h1,hp])
  clear hS9 hq
  obtain⟨x10,hx10,hlx10⟩:=Bw hi10
  simp only[RQ,FY,List.cons_append,List.nil_append]
  intro ν fr;have nuE:=And.intro (fr.mem (b:=n10) (by simp)) (And.intro (fr.mem (b:=rb) (by simp)) (fr.nu))
  simp (maxDischargeDepth:=16) only[AX,↓AW,simprocAttr,forall_const,nuE,fr.2,ET,d10,d10b]
  clear nuE fr
  refine AM.ownX (Y:=[(n10,_)]) (LC rb s pl bk off cap L (A2++(Q++A)) hpM2 i10 x10 hx10 e10 w10 4 ⟨#[43]⟩ (by decide)) (Dis.one (Di g2)).symm ?_
  rintro v D ⟨rfl,hD⟩ dD
  refine⟨_,hD, ?_⟩
  clear hD dD D
  obtain⟨tb,htb⟩: ∃tb,E7 e10 x10 4 ⟨#[43]⟩=tb:=⟨_,rfl⟩
  rw[htb]
  simp only[RQ,FY,List.cons_append,List.nil_append]
  intro ν fr;have nuE:=And.intro (fr.mem (b:=n10) (by simp)) (And.intro (fr.mem (b:=rb) (by simp)) (fr.nu))
  simp (maxDischargeDepth:=16) only[AX,↓AW,simprocAttr,forall_const,nuE,fr.2,ET,d10,d10b]
  clear nuE fr
  refine UA (fun M1=> ∃i11 e11 w11 fx,M1=[(n10,Obj.cells #[.string u1,.int .i64 r.op,.string r.nm,.string r.tx,.int .i64 r.n,.slice r.p r.len r.cap,.int .i64 b,.int .i64 fx,.int .i64 0,.int .i64 0] 38)]++RQ rb s pl bk off cap L i11 e11 w11 (A2++(Q++A))∧i11<L.length∧((e11=0∧w11=0∧fuT s L (exJ L (i+3))=XZ L b fx i11∧GJ L us i=none∧(BR L (i+1)).t=u1∧ ∃t,PxO (Pq pl L i) 0 0 t∧ExR A2 t r)∨Ex s pl L us i e11 w11)) ?_ ?_ ?_
  rotate_left
  ·intro ht key
   subst ht
   obtain⟨he0,hsc⟩:e10=0∧BX x10 4 ⟨#[43]⟩=true:=by simpa[E7]using htb
   subst he0
   rcases hS10 with⟨_,hw0,hT,hH,hnm1,t,hPr,hEx⟩|h
   rotate_left
   ·exact absurd rfl h.1
   have hi11:i10+1<L.length:=DZ hpM2.he hx10 (by rw[Bu hsc];decide)
   obtain⟨y,hy,hly⟩:=Bw hi11
   simp only[if_true]
   refine AM.ownX (Y:=[(n10,_)]) (Ts rb s pl bk off cap L (A2++(Q++A)) hpM2 (i10+1) y hy 0 w10) (Dis.one (Di g2)).symm ?_
   rintro v D ⟨rfl,hD⟩ dD
   refine⟨_,hD, ?_⟩
   clear hD dD D
   obtain⟨u4,hu4⟩: ∃u4,(if(0:Int)=0∧N7 y=true then y.n else 0)=u4:=⟨_,rfl⟩
   rw[hu4]
   obtain⟨i13,e13,w13,ei,ee,ew,hi13,hS13⟩:=Fv (s:=s) (pl:=pl) (us:=us) (i0:=i) (c:=N7 y) (OK:=True) (OK':=fuT s L (exJ L (i+3))=XZ L b u4 (i10+2)∧GJ L us i=none∧(BR L (i+1)).t=u1∧ ∃t,PxO (Pq pl L i) 0 0 t∧ExR A2 t r) hi11 hy hpM2.he (fun hc=>Zo hc) (.inl ⟨rfl,hw0,trivial⟩) (fun _ hc=>by
    rw[if_pos ⟨rfl,hc⟩]at hu4
    refine⟨?_,hH,hnm1,t,hPr,hEx⟩
    rw[hT];unfold bK;rw[TZ hx10 hsc hy hc,hu4]) (fun _ hc=>.t hH hPr (by rw[hT];unfold bK;rw[T2 hx10 hsc hy hc]))
   rw[ei,ee,ew]
   clear ei ee ew
   have ky:=key _ ⟨i13,e13,w13,u4,rfl,hi13,by
    rcases hS13 with⟨a,b,c,d⟩|h
    ·subst c
     exact .inl ⟨a,b,d⟩
    ·exact .inr h⟩
   clear key
   simp only[RQ,FY,List.cons_append,List.nil_append]at ky⊢
   intro ν fr;have nuE:=And.intro (fr.mem (b:=n10) (by simp)) (And.intro (fr.mem (b:=rb) (by simp)) (fr.nu))
   simp (maxDischargeDepth:=16) only[AX,↓AW,simprocAttr,forall_const,nuE,fr.2,ET,d10,d10b]
   exact ky
  ·intro ht
   have htf:tb=false:=by simpa using ht
   subst htf
   refine⟨i10,e10,w10,0,rfl,hi10, ?_⟩
   rcases hS10 with⟨he0,hw0,hT,hr⟩|h
   ·refine .inl ⟨he0,hw0, ?_,hr⟩
    rw[hT];unfold bK;rw[Yr hx10 htb rfl he0]
   ·exact .inr h
  clear hS10 htb
  rintro _ ⟨i11,e11,w11,fx,rfl,hi11,hS11⟩
  obtain⟨x11,hx11,hlx11⟩:=Bw hi11
  refine AM.ownX (Y:=[(n10,_)]) (LC rb s pl bk off cap L (A2++(Q++A)) hpM2 i11 x11 hx11 e11 w11 1 H8 (by decide)) (Dis.one (Di g2)).symm ?_
  rintro v D ⟨rfl,hD⟩ dD
  refine⟨_,hD, ?_⟩
  clear hD dD D
  obtain⟨tb,htb⟩: ∃tb,E7 e11 x11 1 H8=tb:=⟨_,rfl⟩
  rw[htb]
  simp only[RQ,FY,List.cons_append,List.nil_append]
  intro ν fr;have nuE:=And.intro (fr.mem (b:=n10) (by simp)) (And.intro (fr.mem (b:=rb) (by simp)) (fr.nu))
  simp (maxDischargeDepth:=16) only[AX,↓AW,simprocAttr,forall_const,nuE,fr.2,ET,d10,d10b]
  clear nuE fr
  refine UA (fun M1=> ∃i12 e12 w12 mn,M1=[(n10,Obj.cells #[.string u1,.int .i64 r.op,.string r.nm,.string r.tx,.int .i64 r.n,.slice r.p r.len r.cap,.int .i64 b,.int .i64 fx,.int .i64 mn,.int .i64 0] 38)]++RQ rb s pl bk off cap L i12 e12 w12 (A2++(Q++A))∧i12<L.length∧((e12=0∧w12=0∧fuT s L (exJ L (i+3))=X4 L b fx mn i12∧GJ L us i=none∧(BR L (i+1)).t=u1∧ ∃t,PxO (Pq pl L i) 0 0 t∧ExR A2 t r)∨Ex s pl L us i e12 w12)) ?_ ?_ ?_
  rotate_left
  ·intro ht key
   subst ht
   obtain⟨he0,hsc⟩:e11=0∧BX x11 1 H8=true:=by simpa[E7]using htb
   subst he0
   rcases hS11 with⟨_,hw0,hT,hH,hnm1,t,hPr,hEx⟩|h
   rotate_left
   ·exact absurd rfl h.1
   have hi11:i11+1<L.length:=DZ hpM2.he hx11 (by rw[Bu hsc];decide)
   obtain⟨y,hy,hly⟩:=Bw hi11
   simp only[if_true]
   refine AM.ownX (Y:=[(n10,_)]) (Ts rb s pl bk off cap L (A2++(Q++A)) hpM2 (i11+1) y hy 0 w11) (Dis.one (Di g2)).symm ?_
   rintro v D ⟨rfl,hD⟩ dD
   refine⟨_,hD, ?_⟩
   clear hD dD D
   obtain⟨u4,hu4⟩: ∃u4,(if(0:Int)=0∧N7 y=true then y.n else 0)=u4:=⟨_,rfl⟩
   rw[hu4]
   obtain⟨i13,e13,w13,ei,ee,ew,hi13,hS13⟩:=Fv (s:=s) (pl:=pl) (us:=us) (i0:=i) (c:=N7 y) (OK:=True) (OK':=fuT s L (exJ L (i+3))=X4 L b fx u4 (i11+2)∧GJ L us i=none∧(BR L (i+1)).t=u1∧ ∃t,PxO (Pq pl L i) 0 0 t∧ExR A2 t r) hi11 hy hpM2.he (fun hc=>Zo hc) (.inl ⟨rfl,hw0,trivial⟩) (fun _ hc=>by
    rw[if_pos ⟨rfl,hc⟩]at hu4
    refine⟨?_,hH,hnm1,t,hPr,hEx⟩
    rw[hT];unfold XZ;rw[TZ hx11 hsc hy hc,hu4]) (fun _ hc=>.t hH hPr (by rw[hT];unfold XZ;rw[T2 hx11 hsc hy hc]))
   rw[ei,ee,ew]
   clear ei ee ew
   have ky:=key _ ⟨i13,e13,w13,u4,rfl,hi13,by
    rcases hS13 with⟨a,b,c,d⟩|h
    ·subst c
     exact .inl ⟨a,b,d⟩
    ·exact .inr h⟩
   clear key
   simp only[RQ,FY,List.cons_append,List.nil_append]at ky⊢
   intro ν fr;have nuE:=And.intro (fr.mem (b:=n10) (by simp)) (And.intro (fr.mem (b:=rb) (by simp)) (fr.nu))
   simp (maxDischargeDepth:=16) only[AX,↓AW,simprocAttr,forall_const,nuE,fr.2,ET,d10,d10b]
   exact ky
  ·intro ht
   have htf:tb=false:=by simpa using ht
   subst htf
   refine⟨i11,e11,w11,0,rfl,hi11, ?_⟩
   rcases hS11 with⟨he0,hw0,hT,hr⟩|h
   ·refine .inl ⟨he0,hw0, ?_,hr⟩
    rw[hT];unfold XZ;rw[Yr hx11 htb rfl he0]
   ·exact .inr h
  clear hS11 htb
  rintro _ ⟨i12,e12,w12,mn,rfl,hi12,hS12⟩
  obtain⟨x12,hx12,hlx12⟩:=Bw hi12
  refine AM.ownX (Y:=[(n10,_)]) (LC rb s pl bk off cap L (A2++(Q++A)) hpM2 i12 x12 hx12 e12 w12 1 H3 (by decide)) (Dis.one (Di g2)).symm ?_
  rintro v D ⟨rfl,hD⟩ dD
  refine⟨_,hD, ?_⟩
  clear hD dD D
  obtain⟨tb,htb⟩: ∃tb,E7 e12 x12 1 H3=tb:=⟨_,rfl⟩
  rw[htb]
  simp only[RQ,FY,List.cons_append,List.nil_append]
  intro ν fr;have nuE:=And.intro (fr.mem (b:=n10) (by simp)) (And.intro (fr.mem (b:=rb) (by simp)) (fr.nu))
  simp (maxDischargeDepth:=16) only[AX,↓AW,simprocAttr,forall_const,nuE,fr.2,ET,d10,d10b]
  clear nuE fr
  refine UA (fun M1=> ∃i14 e14 w14 mx,M1=[(n10,Obj.cells #[.string u1,.int .i64 r.op,.string r.nm,.string r.tx,.int .i64 r.n,.slice r.p r.len r.cap,.int .i64 b,.int .i64 fx,.int .i64 mn,.int .i64 mx] 38)]++RQ rb s pl bk off cap L i14 e14 w14 (A2++(Q++A))∧i14<L.length∧((e14=0∧w14=0∧fuT s L (exJ L (i+3))=cY L b fx mn mx i14∧GJ L us i=none∧(BR L (i+1)).t=u1∧ ∃t,PxO (Pq pl L i) 0 0 t∧ExR A2 t r)∨Ex s pl L us i e14 w14)) ?_ ?_ ?_
  rotate_left
  ·intro ht key
   subst ht
   obtain⟨he0,hsc⟩:e12=0∧BX x12 1 H3=true:=by simpa[E7]using htb
   subst he0
   rcases hS12 with⟨_,hw0,hT,hH,hnm1,t,hPr,hEx⟩|h
   rotate_left
   ·exact absurd rfl h.1
   have hi11:i12+1<L.length:=DZ hpM2.he hx12 (by rw[Bu hsc];decide)
   obtain⟨y,hy,hly⟩:=Bw hi11
   simp only[if_true]
   refine AM.ownX (Y:=[(n10,_)]) (Ts rb s pl bk off cap L (A2++(Q++A)) hpM2 (i12+1) y hy 0 w12) (Dis.one (Di g2)).symm ?_
   rintro v D ⟨rfl,hD⟩ dD
   refine⟨_,hD, ?_⟩
   clear hD dD D
   obtain⟨u4,hu4⟩: ∃u4,(if(0:Int)=0∧N7 y=true then y.n else 0)=u4:=⟨_,rfl⟩
   rw[hu4]
   obtain⟨i13,e13,w13,ei,ee,ew,hi13,hS13⟩:=Fv (s:=s) (pl:=pl) (us:=us) (i0:=i) (c:=N7 y) (OK:=True) (OK':=fuT s L (exJ L (i+3))=cY L b fx mn u4 (i12+2)∧GJ L us i=none∧(BR L (i+1)).t=u1∧ ∃t,PxO (Pq pl L i) 0 0 t∧ExR A2 t r) hi11 hy hpM2.he (fun hc=>Zo hc) (.inl ⟨rfl,hw0,trivial⟩) (fun _ hc=>by
    rw[if_pos ⟨rfl,hc⟩]at hu4
    refine⟨?_,hH,hnm1,t,hPr,hEx⟩
    rw[hT];unfold X4;rw[TZ hx12 hsc hy hc,hu4]) (fun _ hc=>.t hH hPr (by rw[hT];unfold X4;rw[T2 hx12 hsc hy hc]))
   rw[ei,ee,ew]
   clear ei ee ew
   have ky:=key _ ⟨i13,e13,w13,u4,rfl,hi13,by
    rcases hS13 with⟨a,b,c,d⟩|h
    ·subst c
     exact .inl ⟨a,b,d⟩
    ·exact .inr h⟩
   clear key
   simp only[RQ,FY,List.cons_append,List.nil_append]at ky⊢
   intro ν fr;have nuE:=And.intro (fr.mem (b:=n10) (by simp)) (And.intro (fr.mem (b:=rb) (by simp)) (fr.nu))
   simp (maxDischargeDepth:=16) only[AX,↓AW,simprocAttr,forall_const,nuE,fr.2,ET,d10,d10b]
   exact ky
  ·intro ht
   have htf:tb=false:=by simpa using ht
   subst htf
   refine⟨i12,e12,w12,0,rfl,hi12, ?_⟩
   rcases hS12 with⟨he0,hw0,hT,hr⟩|h
   ·refine .inl ⟨he0,hw0, ?_,hr⟩
    rw[hT];unfold X4;rw[Yr hx12 htb rfl he0]
   ·exact .inr h
  clear hS12 htb
  rintro _ ⟨i14,e14,w14,mx,rfl,hi14,hS14⟩
  obtain⟨x14,hx14,hlx14⟩:=Bw hi14
  refine AM.ownX (Y:=[(n10,_)]) (JN rb s pl bk off cap L (A2++(Q++A)) hpM2 i14 x14 hx14 e14 w14 4 ⟨#[59]⟩ (by decide)) (Dis.one (Di g2)).symm ?_
  rintro v D ⟨rfl,hD⟩ dD
  refine⟨_,hD, ?_⟩
  clear hD dD D
  obtain⟨i15,e15,w15,ei,ee,ew,hi15,hS15⟩:=Fv (c:=BX x14 4 ⟨#[59]⟩) (OK':= ∃t,FuO s pl L us i ⟨u1,t,b,fx,mn,mx⟩ (i14+1)∧ExR A2 t r) hi14 hx14 hpM2.he (fun hc=>by rw[Bu hc];decide) hS14 (fun⟨h1,h2,h3,t,h4,h5⟩ hc=>by
   refine⟨t, ?_,h5⟩
   have:=FuO.ok h2 h4 (by rw[h1];unfold cY;rw[if_neg (by rw[hlx14,hc];decide)])
   rwa [h3]at this) (fun⟨h1,h2,h3,t,h4,h5⟩ hc=>.t h2 h4 (by rw[h1];unfold cY;rw[if_pos (by rw[hlx14];exact hc)]))
  rw[ei,ee,ew]
  clear ei ee ew hS14
  simp only[RQ,FY,List.cons_append,List.nil_append]
  intro ν fr;have nuE:=And.intro (fr.mem (b:=n10) (by simp)) (And.intro (fr.mem (b:=rb) (by simp)) (fr.nu))
  have g7:=fr.2 0
  simp (maxDischargeDepth:=16) only[AX,↓AW,simprocAttr,forall_const,nuE,fr.2,ET,d10,d10b,jZ]
  have dst_:((ν 0=rb)=False)∧((ν 0=n10)=False)∧((rb=ν 0)=False)∧((n10=ν 0)=False):=(by simp[nuE]);generalize ν 0=n7 at dst_  g7⊢
  clear nuE fr
  have h10A:Vm.AA (A2++(Q++A)) n10=none:=AJ ((P3 hn2).none h10) g10X
  have dA2X:Dis A2 (Q++A):=Dis.subl dP2 (P3 hn2)
  have sR: ∀o,SubA (A2++(Q++A)) ((rb,o)::(A2++(Q++A))):=fun o=>SubA.fresh (AJ hn2 hXr) (SubA.refl _)
  have h10R: ∀o,Vm.AA ((rb,o)::(A2++(Q++A))) n10=none:=fun o=>AK d10b h10A
  have sM: ∀o o',SubA ((rb,o)::(A2++(Q++A))) ((n10,o')::(rb,o)::(A2++(Q++A))):=fun o o'=>SubA.fresh (h10R o) (SubA.refl _)
  have sQ:SubA Q (A2++(Q++A)):=SubA.trans (SubA.left Q A) dA2X.right
  have sA2A:SubA (A2++A) (A2++(Q++A)):=SubA.both (SubA.left _ _) (SubA.trans dQA.right dA2X.right)
  have fAr:Vm.AA A rb=none:=dQA.right.none hXr
  have sN: ∀o,SubA ((rb,o)::(A2++A)) ((rb,o)::(A2++(Q++A))):=fun o=>SubA.both (X:=[(rb,o)]) (SubA.left [(rb,o)] _) (SubA.trans sA2A (sR o))
  have dQN: ∀o,Dis Q ((rb,o)::(A2++A)):=fun o=>Fm ((SubA.left Q A).none hXr) (Dis.appr (Dis.subl dA2X.symm (SubA.left Q A)) dQA)
  refine NJ.use ?_
  refine Ey (m:=1) (news:=Fo ⟨u1,r,b,fx,mn,mx⟩) (B:=Q) WK VX rfl (by decide) ho2 (SubA.trans (SubA.trans sQ (SubA.trans (sR _) (sM _ _))) (SubA.fresh g7 (SubA.refl _))) (.inr ⟨n7,0,rfl,by simp[Vm.AA,DX,Fo]⟩) (by simp[Fo,Value.oneCell']) (by simp only[maxLen];omega) (by omega) ?_
  intro v' Q' ho3' hb3
  have ho3:Cq Fo 10 38 v' Q' (rs++[⟨u1,r,b,fx,mn,mx⟩]):=by
   unfold Cq
   rw[List.length_append,List.flatMap_append]
   simpa using ho3'
  obtain⟨p',cap',rfl,_⟩:=ho3.slice
  have sNM:=fun(o7:Obj)=>SubA.trans (sN (FY s pl bk off L.length cap i15 e15 w15)) (SubA.trans (sM _ (.cells #[.string u1,.int .i64 r.op,.string r.nm,.string r.tx,.int .i64 r.n,.slice r.p r.len r.cap,.int .i64 b,.int .i64 fx,.int .i64 mn,.int .i64 mx] 38)) (SubA.fresh (o:=o7) g7 (SubA.refl _)))
  have dQ':Dis Q' ((rb,FY s pl bk off L.length cap i15 e15 w15)::(A2++A)):=Ll hb3 (dQN _) (sNM _)
  have dA2A:Dis A2 A:=dA2X.subr dQA.right
  have sAN:SubA A ((rb,FY s pl bk off L.length cap i15 e15 w15)::(A2++A)):=SubA.skip fAr dA2A.right
  have dQ'A:Dis Q' A:=Dis.subr dQ' sAN
  refine⟨(rb,FY s pl bk off L.length cap i15 e15 w15)::(A2++(Q'++A)), ?_, ?_⟩
  ·have hN:=dQ'.sub (sNM (.cells #[.string u1,.int .i64 r.op,.string r.nm,.string r.tx,.int .i64 r.n,.slice r.p r.len r.cap,.int .i64 b,.int .i64 fx,.int .i64 mn,.int .i64 mx] 38))
   refine SubA.both (X:=[(rb,_)]) (SubA.trans (SubA.left [(rb,_)] _) hN) (SubA.both (SubA.trans (SubA.trans (SubA.left A2 A) (SubA.fresh (AJ hn2 fAr) (SubA.refl _))) hN) (SubA.both (SubA.left _ _) (SubA.trans sAN hN)))
  simp only[FY]
  intro ν fr;have nuE:=And.intro (fr.mem (b:=rb) (by simp)) (fr.nu)
  simp (maxDischargeDepth:=16) only[AX,↓AW,simprocAttr,forall_const,nuE,fr.2,ET]
  have dQR:Dis Q' (RQ rb s pl bk off cap L i15 e15 w15 A2):=Dis.subr dQ' (SubA.left ((rb,FY s pl bk off L.length cap i15 e15 w15)::A2) A)
  have dP3:Dis (RQ rb s pl bk off cap L i15 e15 w15 A2) (Q'++A):=Dis.appr dQR.symm (Dis.subr (Tv dP2) dQA.right)
  have hk2:(BR L i).k≠0:=by rw[hlx];exact hk
  rw[if_pos rfl]at hm
  rcases hS15 with⟨he15,hw15,hi15e,t,hu,hEx⟩|⟨hbad,a,q1,q2⟩
  ·rw[←hi15e]at hu
   obtain⟨hlt,hfew⟩:=hu.lts
   have hst':(e15=0∧w15=0∧(rs++[(⟨u1,r,b,fx,mn,mx⟩:Fuv)]).length=(us++[(⟨u1,t,b,fx,mn,mx⟩:Fu)]).length∧(rs++[(⟨u1,r,b,fx,mn,mx⟩:Fuv)]).map Fuv.nm=(us++[(⟨u1,t,b,fx,mn,mx⟩:Fu)]).map Fu.nm∧NK A2 (us++[⟨u1,t,b,fx,mn,mx⟩]) (rs++[⟨u1,r,b,fx,mn,mx⟩])∧(us++[(⟨u1,t,b,fx,mn,mx⟩:Fu)]).length≤64∧(∀vs k,FlO s pl L (us++[⟨u1,t,b,fx,mn,mx⟩]) i15 vs k→FlO s pl L [] 0 vs k)∧ ∀e a,FlE s pl L (us++[⟨u1,t,b,fx,mn,mx⟩]) i15 e a→FlE s pl L [] 0 e a):=
    ⟨he15,hw15,by simp[hrl],by simp[hnm],(hall.mono hsA).push hrl ⟨rfl,hEx,rfl,rfl,rfl,rfl⟩,by simp;omega,fun vs k h=>hO _ _ (.step hk2 hu h),fun e a h=>hE _ _ (.step hk2 hu h)⟩
   have h9:=ih (if e15=0 then L.length - i15+1 else 0) (by rw[if_pos he15];omega) (us++[⟨u1,t,b,fx,mn,mx⟩]) (rs++[⟨u1,r,b,fx,mn,mx⟩]) _ Q' i15 e15 w15 A2 ho3 hi15 hp2 dQ'A dP3 (by simp;omega) (.inl hst') rfl
   exact Ah.weak h9 (by simp only[BW,Ab,Nat.reduceEqDiff,↓reduceIte,reduceCtorEq,Nat.reduceAdd,and_self,and_true]) (SubA.refl _)
  ·have h9:=ih (if e15=0 then L.length - i15+1 else 0) (by rw[if_neg hbad];omega) us (rs++[⟨u1,r,b,fx,mn,mx⟩]) _ Q' i15 e15 w15 A2 ho3 hi15 hp2 dQ'A dP3 (by simp;omega) (.inr ⟨hbad,a,hE _ _ (.err hk2 q1),q2⟩) rfl
   exact Ah.weak h9 (by simp only[BW,Ab,Nat.reduceEqDiff,↓reduceIte,reduceCtorEq,Nat.reduceAdd,and_self,and_true]) (SubA.refl _)
end Go.Proofs.YtfphceknmgadgaaGreatDoor
namespace Go.Proofs.YtfphceknmgadgaaGreatDoor
open Go.Vm
set_option maxHeartbeats 8000000
set_option maxRecDepth 20000
theorem X2(A:AH)(hT:Hq A)(s:ByteArray):AM Tryz.prog 3 #[.string s] A (fun u_ A_=>u_=.bool true∧SubA A A_):=by
 refine AR ⟨Tryz.prog,3,Tryz.f3,41,[0,2,3,4,5,6,7,8],⟨[7,8],none⟩,[],_⟩ rfl (args:=[_]) Tryz.func3 rfl (by kernel_rfl) Tryz.ntmps3 (by simp) (by kernel_rfl) ?_
 intro ν fr;have nuE:=fr.nu
 have av:=VA A hT A (SubA.refl _)
 by_cases hs:s.size≤5000
 rotate_left
 ·have lt:(5000<(s.size:Int))=True:=eq_true (by omega)
  simp (maxDischargeDepth:=16) only[AX,↓AW,simprocAttr,forall_const,nuE,fr.2,ET,lt,av]
 have lt:(5000<(s.size:Int))=False:=eq_false (by omega)
 simp (maxDischargeDepth:=16) only[AX,↓AW,simprocAttr,forall_const,nuE,fr.2,ET,lt]
 clear nuE fr
 refine AM.newX (Pm s (by omega)) (SubA.nil _) ?_
 rintro v B ⟨e1,a1,us,p1,k1,hP1,hl1,hc1,rfl,hR1⟩ d1
 refine⟨B++A,SubA.refl _, ?_⟩
 intro ν fr;have nuE:=fr.nu
 simp (maxDischargeDepth:=16) only[AX,↓AW,simprocAttr,forall_const,nuE,fr.2,ET]
 clear nuE fr
 refine AM.newX (aq (B++A) s (by omega)) (SubA.refl _) ?_
 rintro v B2 ⟨e2,a2,us2,p2,k2,hP2,hl2,hc2,rfl,hR2⟩ d2
 obtain⟨rfl,rfl,rfl⟩:=hP1.det hP2
 refine⟨B2++(B++A),SubA.refl _, ?_⟩
 have sAll:=SubA.trans d1.right d2.right
 have q1:=(hR1.mono (SubA.left B A)).mono d2.right
 have q2:=hR2.mono (SubA.left B2 (B++A))
 have iv:=oY _ us p1 p2 k1 k2 (by omega) q1 q2 _ (SubA.refl _)
 have av2:=VA A hT _ sAll
 intro ν fr;have nuE:=fr.nu
 simp (maxDischargeDepth:=16) only[AX,↓AW,simprocAttr,forall_const,nuE,fr.2,ET,iv,av2]
 exact sAll
theorem Xv(A:AH)(hT:Hq A)(s:ByteArray):B5 Tryz.prog 3 #[.string s] A=some (.bool true):=Bk (Ct (by kernel_rfl) (X2 A hT s) (SubA.refl _))
theorem Sz(w:World)(ht:Lib.TabIs Tryz.prog w "internal/strconv.uint64pow10" .u64 Lib.pow10Tab)(s:ByteArray):
  CallsH Tryz.prog 3 #[.string s] w.heap fun e h'=>e=.returned (.bool true)∧Grew w.heap h':=by
 obtain⟨B,hB,hT⟩:=Hq.of ht
 exact Lu (Xv B hT s) (by kernel_rfl) hB
end Go.Proofs.YtfphceknmgadgaaGreatDoor
