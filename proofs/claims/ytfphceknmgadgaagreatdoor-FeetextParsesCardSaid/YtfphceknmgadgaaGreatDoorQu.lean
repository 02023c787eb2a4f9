/-
The reference parser: operands; ParseExpr.
Conditions: none.
-/
import Derived.Test.YtfphceknmgadgaaGreatDoorQs
set_option linter.unusedSimpArgs false
set_option linter.unusedVariables false
namespace Go.Proofs.YtfphceknmgadgaaGreatDoor
open Go.Vm
set_option maxHeartbeats 4000000
set_option maxRecDepth 20000
theorem Dh:type_of% (An @BC (An @BU (An @BS (An @Aw (An @BB (An @BT (An @Bn (An @BN (An @CA (An @CS (An @B9 (An @CR (An @Cm (An @CT (An @CC (An @Bp (An @Bq (An @CQ (An @Be (An @Br (An @CB (An @Bo (An @Bx (An @AU (An @AQ (An @Am (An @Ap (An @Ag (An @BG (An @Aj (An @At (An @Au (An @Ax (An @A4 (An @A5 (An @A7 (An @BA (An @Ce (An @Bs @C2))))))))))))))))))))))))))))))))))))))):=⟨@BC,@BU,@BS,@Aw,@BB,@BT,@Bn,@BN,@CA,@CS,@B9,@CR,@Cm,@CT,@CC,@Bp,@Bq,@CQ,@Be,@Br,@CB,@Bo,@Bx,@AU,@AQ,@Am,@Ap,@Ag,@BG,@Aj,@At,@Au,@Ax,@A4,@A5,@A7,@BA,@Ce,@Bs,@C2⟩
theorem ME{e e':Int}{c:Bool}(h:EP e c=e')(h0:e'=0):e=0:=by
 unfold EP at h
 split at h
 ·assumption
 ·rw[h];exact h0
theorem Us(rb:Nat)(lp:Option Addr)(lcap:Nat)(L:List LR)(A:AH)(hp:RsOk rb lp L A)(i:Nat)(hi:i<L.length)(w op:Int):AM Tryz.prog 165 #[.pointer (some ⟨rb,0,none⟩),.int .i64 op] (RS rb lp lcap L i 0 w A) (fun u_ A_=> ∃nm n i' e' w',u_=C5 ⟨op,nm,eB,n,none,0,0⟩∧i'<L.length∧SubA (RS rb lp lcap L i' e' w' A) A_∧((e'=0∧w'=w∧GK L i=(0,i',nm,n))∨(e'=2∧ ∃(jj:Nat) (z:LR),GK L i=(2,jj,eB,0)∧L[jj]? =some z∧w'=(z.a:Int)))):=by
 refine AR ⟨Tryz.prog,165,Tryz.f165,21,[0,1,4,5],⟨[152,166,169],none⟩,[],_⟩ rfl (args:=[_,_]) Tryz.func165 rfl (by kernel_rfl) Tryz.ntmps165 (by simp) (by kernel_rfl) ?_
 intro ν fr;have nuE:=fr.nu
 have f0:=fr.2 0
 have f1:=fr.2 1
 have n01:(ν 1=ν 0)=False:=by simp[nuE]
 simp (maxDischargeDepth:=16) only[AX,↓AW,simprocAttr,forall_const,nuE,fr.2,Dh]
 have dst_:((ν 0=ν 1)=False)∧((ν 1=ν 0)=False):=(by simp[nuE]);generalize ν 0=n4 at dst_  f0 f1 n01 ⊢;generalize ν 1=n5 at dst_  f0 f1 n01⊢
 clear nuE fr
 have d45:=dst_
 clear dst_
 obtain⟨i0,e0,w0,ei,ee,ew,hi0,hS0⟩: ∃i0 e0 w0,i=i0∧(0:Int)=e0∧w=w0∧i0<L.length∧((e0=0∧w0=w∧i0=i+0)∨(e0=2∧ ∃(jj:Nat) (z:LR),GK L i=(2,jj,eB,0)∧L[jj]? =some z∧w0=(z.a:Int))):=⟨_,_,_,rfl,rfl,rfl,hi,.inl ⟨rfl,rfl,rfl⟩⟩
 have g4:Vm.AA (RS rb lp lcap L i0 e0 w0 A) n4=none:=by rw[←ei,←ee,←ew];exact f0
 have g5:Vm.AA (RS rb lp lcap L i0 e0 w0 A) n5=none:=by rw[←ei,←ee,←ew];exact f1
 rw[show RS rb lp lcap L i 0 w A=RS rb lp lcap L i0 e0 w0 A by rw[←ei,←ee,←ew]]
 clear f0 f1 ei ee ew
 obtain⟨x0,hx0,hl0⟩:=Bw hi0
 refine AM.ownX (Y:=[(n5,_),(n4,_)]) (Gu rb lp lcap L A hp i0 x0 hx0 e0 w0 4 ⟨#[40]⟩) (dis2 (A8 g5) (A8 g4)) ?_
 rintro v D ⟨rfl,hD⟩ dD
 refine⟨_,hD, ?_⟩
 clear hD dD D
 obtain⟨i1,e1,w1,ei,ee,ew,hi1,hS1⟩: ∃i' e' w',Da e0 (BX x0 4 ⟨#[40]⟩) i0=i'∧EP e0 (BX x0 4 ⟨#[40]⟩)=e'∧D9 e0 w0 (BX x0 4 ⟨#[40]⟩) x0=w'∧i'<L.length∧((e'=0∧w'=w∧i'=i+1∧BX (BR L i) 4 ⟨#[40]⟩=true)∨(e'=2∧ ∃(jj:Nat) (z:LR),GK L i=(2,jj,eB,0)∧L[jj]? =some z∧w'=(z.a:Int))):=by
  refine⟨_,_,_,rfl,rfl,rfl, ?_⟩
  rcases hS0 with⟨he,hw,hii⟩|⟨he,hbad⟩
  ·subst he
   have hlx:BR L i=x0:=by rw[←hl0,hii];rfl
   cases hc:BX x0 4 ⟨#[40]⟩with
   |true=>exact⟨by simp only[Da,and_self,if_true];exact DZ hp.he hx0 (by rw[Bu hc];decide),.inl ⟨rfl,by simp only[D9,if_true];exact hw,by simp only[Da,and_self,if_true];omega,by rw[hlx];exact hc⟩⟩
   |false=>
    have hc':BX (BR L i) 4 ⟨#[40]⟩=false:=by rw[hlx];exact hc
    exact⟨by simp only[Da,Bool.false_eq_true,and_false,if_false];exact hi0,.inr ⟨rfl,i0,x0,by rw[hii];unfold GK;rw[if_pos hc'];rfl,hx0,by simp only[D9,if_true,Bool.false_eq_true,if_false]⟩⟩
  ·have hne: ¬e0=0:=by omega
   exact⟨by simp only[Da,hne,false_and,if_false];exact hi0,.inr ⟨by simp only[EP,if_neg hne];exact he,by simp only[D9,if_neg hne];exact hbad⟩⟩
 rw[ei,ee,ew]
 clear ei ee ew
 simp only[RS,Cp,List.cons_append,List.nil_append]
 intro ν fr;have nuE:=And.intro (fr.mem (b:=n5) (by simp)) (And.intro (fr.mem (b:=n4) (by simp)) (fr.nu))
 simp (maxDischargeDepth:=16) only[AX,↓AW,simprocAttr,forall_const,nuE,fr.2,Dh,d45]
 clear nuE fr
 obtain⟨x1,hx1,hl1⟩:=Bw hi1
 refine AM.ownX (Y:=[(n5,_),(n4,_)]) (Wx rb lp lcap L A hp i1 x1 hx1 e1 w1) (dis2 (A8 g5) (A8 g4)) ?_
 rintro v D ⟨rfl,hD⟩ dD
 refine⟨_,hD, ?_⟩
 clear hD dD D
 obtain⟨i2,e2,w2,ei,ee,ew,hi2,hS2⟩: ∃i' e' w',Da e1 (FA x1) i1=i'∧EP e1 (FA x1)=e'∧D9 e1 w1 (FA x1) x1=w'∧i'<L.length∧((e'=0∧w'=w∧i'=i+2∧BX (BR L i) 4 ⟨#[40]⟩=true∧FA (BR L (i+1))=true)∨(e'=2∧ ∃(jj:Nat) (z:LR),GK L i=(2,jj,eB,0)∧L[jj]? =some z∧w'=(z.a:Int))):=by
  refine⟨_,_,_,rfl,rfl,rfl, ?_⟩
  rcases hS1 with⟨he,hw,hii,k0⟩|⟨he,hbad⟩
  ·subst he
   have hlx:BR L (i+1)=x1:=by rw[←hl1,hii]
   cases hc:FA x1 with
   |true=>exact⟨by simp only[Da,and_self,if_true];exact DZ hp.he hx1 (Wc hc),.inl ⟨rfl,by simp only[D9,if_true];exact hw,by simp only[Da,and_self,if_true];omega,k0,by rw[hlx];exact hc⟩⟩
   |false=>
    have hc':FA (BR L (i+1))=false:=by rw[hlx];exact hc
    exact⟨by simp only[Da,Bool.false_eq_true,and_false,if_false];exact hi1,.inr ⟨rfl,i1,x1,by rw[hii];unfold GK;rw[if_neg (by rw[k0];decide),if_pos hc'],hx1,by simp only[D9,if_true,Bool.false_eq_true,if_false]⟩⟩
  ·have hne: ¬e1=0:=by omega
   exact⟨by simp only[Da,hne,false_and,if_false];exact hi1,.inr ⟨by simp only[EP,if_neg hne];exact he,by simp only[D9,if_neg hne];exact hbad⟩⟩
 obtain⟨nm,enm,hnm⟩: ∃nm,(if e1=0∧FA x1=true then x1.t else eB)=nm∧(e1=0→i1=i+1→FA (BR L (i+1))=true→nm=(BR L (i+1)).t):=⟨_,rfl,fun h1 h2 h3=>by rw[show BR L (i+1)=x1 by rw[←hl1,h2]]at h3 ⊢;rw[if_pos ⟨h1,h3⟩]⟩
 have hnm':e2=0→nm=(BR L (i+1)).t:=fun h=>by
  rcases hS2 with⟨h2,_,_,k0,k1⟩|⟨h2,_⟩
  ·rcases hS1 with⟨h1,_,h3,_⟩|⟨h1,_⟩
   ·exact hnm h1 h3 k1
   ·simp only[EP]at ee;rw[if_neg (by omega)]at ee;omega
  ·omega
 rw[enm]
 clear hnm enm
 rw[ei,ee,ew]
 clear ei ee ew
 simp only[RS,Cp,List.cons_append,List.nil_append]
 intro ν fr;have nuE:=And.intro (fr.mem (b:=n5) (by simp)) (And.intro (fr.mem (b:=n4) (by simp)) (fr.nu))
 simp (maxDischargeDepth:=16) only[AX,↓AW,simprocAttr,forall_const,nuE,fr.2,Dh,d45]
 clear nuE fr
 obtain⟨x2,hx2,hl2⟩:=Bw hi2
 refine AM.ownX (Y:=[(n5,_),(n4,_)]) (Gu rb lp lcap L A hp i2 x2 hx2 e2 w2 4 ⟨#[44]⟩) (dis2 (A8 g5) (A8 g4)) ?_
 rintro v D ⟨rfl,hD⟩ dD
 refine⟨_,hD, ?_⟩
 clear hD dD D
 obtain⟨i3,e3,w3,ei,ee,ew,hi3,hS3⟩: ∃i' e' w',Da e2 (BX x2 4 ⟨#[44]⟩) i2=i'∧EP e2 (BX x2 4 ⟨#[44]⟩)=e'∧D9 e2 w2 (BX x2 4 ⟨#[44]⟩) x2=w'∧i'<L.length∧((e'=0∧w'=w∧i'=i+3∧BX (BR L i) 4 ⟨#[40]⟩=true∧FA (BR L (i+1))=true∧BX (BR L (i+2)) 4 ⟨#[44]⟩=true)∨(e'=2∧ ∃(jj:Nat) (z:LR),GK L i=(2,jj,eB,0)∧L[jj]? =some z∧w'=(z.a:Int))):=by
  refine⟨_,_,_,rfl,rfl,rfl, ?_⟩
  rcases hS2 with⟨he,hw,hii,k0,k1⟩|⟨he,hbad⟩
  ·subst he
   have hlx:BR L (i+2)=x2:=by rw[←hl2,hii]
   cases hc:BX x2 4 ⟨#[44]⟩with
   |true=>exact⟨by simp only[Da,and_self,if_true];exact DZ hp.he hx2 (by rw[Bu hc];decide),.inl ⟨rfl,by simp only[D9,if_true];exact hw,by simp only[Da,and_self,if_true];omega,k0,k1,by rw[hlx];exact hc⟩⟩
   |false=>
    have hc':BX (BR L (i+2)) 4 ⟨#[44]⟩=false:=by rw[hlx];exact hc
    exact⟨by simp only[Da,Bool.false_eq_true,and_false,if_false];exact hi2,.inr ⟨rfl,i2,x2,by rw[hii];unfold GK;rw[if_neg (by rw[k0];decide),if_neg (by rw[k1];decide),if_pos hc'],hx2,by simp only[D9,if_true,Bool.false_eq_true,if_false]⟩⟩
  ·have hne: ¬e2=0:=by omega
   exact⟨by simp only[Da,hne,false_and,if_false];exact hi2,.inr ⟨by simp only[EP,if_neg hne];exact he,by simp only[D9,if_neg hne];exact hbad⟩⟩
 have h23':e3=0→e2=0:=fun h=>ME ee h
 rw[ei,ee,ew]
 clear ei ee ew
 simp only[RS,Cp,List.cons_append,List.nil_append]
 intro ν fr;have nuE:=And.intro (fr.mem (b:=n5) (by simp)) (And.intro (fr.mem (b:=n4) (by simp)) (fr.nu))
 simp (maxDischargeDepth:=16) only[AX,↓AW,simprocAttr,forall_const,nuE,fr.2,Dh,d45]
 clear nuE fr
 obtain⟨x3,hx3,hl3⟩:=Bw hi3
 refine AM.ownX (Y:=[(n5,_),(n4,_)]) (nL rb lp lcap L A hp i3 x3 hx3 e3 w3 9007199254740992) (dis2 (A8 g5) (A8 g4)) ?_
 rintro v D ⟨rfl,hD⟩ dD
 refine⟨_,hD, ?_⟩
 clear hD dD D
 obtain⟨i4,e4,w4,ei,ee,ew,hi4,hS4⟩: ∃i' e' w',Da e3 (F9 x3 9007199254740992) i3=i'∧EP e3 (F9 x3 9007199254740992)=e'∧D9 e3 w3 (F9 x3 9007199254740992) x3=w'∧i'<L.length∧((e'=0∧w'=w∧i'=i+4∧BX (BR L i) 4 ⟨#[40]⟩=true∧FA (BR L (i+1))=true∧BX (BR L (i+2)) 4 ⟨#[44]⟩=true∧F9 (BR L (i+3)) 9007199254740992=true)∨(e'=2∧ ∃(jj:Nat) (z:LR),GK L i=(2,jj,eB,0)∧L[jj]? =some z∧w'=(z.a:Int))):=by
  refine⟨_,_,_,rfl,rfl,rfl, ?_⟩
  rcases hS3 with⟨he,hw,hii,k0,k1,k2⟩|⟨he,hbad⟩
  ·subst he
   have hlx:BR L (i+3)=x3:=by rw[←hl3,hii]
   cases hc:F9 x3 9007199254740992 with
   |true=>exact⟨by simp only[Da,and_self,if_true];exact DZ hp.he hx3 (gV hc),.inl ⟨rfl,by simp only[D9,if_true];exact hw,by simp only[Da,and_self,if_true];omega,k0,k1,k2,by rw[hlx];exact hc⟩⟩
   |false=>
    have hc':F9 (BR L (i+3)) 9007199254740992=false:=by rw[hlx];exact hc
    exact⟨by simp only[Da,Bool.false_eq_true,and_false,if_false];exact hi3,.inr ⟨rfl,i3,x3,by rw[hii];unfold GK;rw[if_neg (by rw[k0];decide),if_neg (by rw[k1];decide),if_neg (by rw[k2];decide),if_pos hc'],hx3,by simp only[D9,if_true,Bool.false_eq_true,if_false]⟩⟩
  ·have hne: ¬e3=0:=by omega
   exact⟨by simp only[Da,hne,false_and,if_false];exact hi3,.inr ⟨by simp only[EP,if_neg hne];exact he,by simp only[D9,if_neg hne];exact hbad⟩⟩
 obtain⟨nn,enn,hnn⟩: ∃nn,(if e3=0∧F9 x3 9007199254740992=true then x3.n else 0)=nn∧(e3=0→i3=i+3→F9 (BR L (i+3)) 9007199254740992=true→nn=(BR L (i+3)).n):=⟨_,rfl,fun h1 h2 h3=>by rw[show BR L (i+3)=x3 by rw[←hl3,h2]]at h3 ⊢;rw[if_pos ⟨h1,h3⟩]⟩
 have hnn':e4=0→nn=(BR L (i+3)).n:=fun h=>by
  rcases hS4 with⟨h2,_,_,k0,k1,k2,k3⟩|⟨h2,_⟩
  ·rcases hS3 with⟨h1,_,h3,_⟩|⟨h1,_⟩
   ·exact hnn h1 h3 k3
   ·simp only[EP]at ee;rw[if_neg (by omega)]at ee;omega
  ·omega
 have h23:e4=0→e2=0:=fun h=>by
  rcases hS4 with⟨h2,_⟩|⟨h2,_⟩
  ·exact h23' (ME ee h)
  ·omega
 rw[enn]
 clear hnn enn
 rw[ei,ee,ew]
 clear ei ee ew
 simp only[RS,Cp,List.cons_append,List.nil_append]
 intro ν fr;have nuE:=And.intro (fr.mem (b:=n5) (by simp)) (And.intro (fr.mem (b:=n4) (by simp)) (fr.nu))
 simp (maxDischargeDepth:=16) only[AX,↓AW,simprocAttr,forall_const,nuE,fr.2,Dh,d45]
 clear nuE fr
 obtain⟨x4,hx4,hl4⟩:=Bw hi4
 refine AM.ownX (Y:=[(n5,_),(n4,_)]) (Gu rb lp lcap L A hp i4 x4 hx4 e4 w4 4 ⟨#[41]⟩) (dis2 (A8 g5) (A8 g4)) ?_
 rintro v D ⟨rfl,hD⟩ dD
 refine⟨_,hD, ?_⟩
 clear hD dD D
 obtain⟨i5,e5,w5,ei,ee,ew,hi5,hS5⟩: ∃i' e' w',Da e4 (BX x4 4 ⟨#[41]⟩) i4=i'∧EP e4 (BX x4 4 ⟨#[41]⟩)=e'∧D9 e4 w4 (BX x4 4 ⟨#[41]⟩) x4=w'∧i'<L.length∧((e'=0∧w'=w∧i'=i+5∧BX (BR L i) 4 ⟨#[40]⟩=true∧FA (BR L (i+1))=true∧BX (BR L (i+2)) 4 ⟨#[44]⟩=true∧F9 (BR L (i+3)) 9007199254740992=true∧BX (BR L (i+4)) 4 ⟨#[41]⟩=true)∨(e'=2∧ ∃(jj:Nat) (z:LR),GK L i=(2,jj,eB,0)∧L[jj]? =some z∧w'=(z.a:Int))):=by
  refine⟨_,_,_,rfl,rfl,rfl, ?_⟩
  rcases hS4 with⟨he,hw,hii,k0,k1,k2,k3⟩|⟨he,hbad⟩
  ·subst he
   have hlx:BR L (i+4)=x4:=by rw[←hl4,hii]
   cases hc:BX x4 4 ⟨#[41]⟩with
   |true=>exact⟨by simp only[Da,and_self,if_true];exact DZ hp.he hx4 (by rw[Bu hc];decide),.inl ⟨rfl,by simp only[D9,if_true];exact hw,by simp only[Da,and_self,if_true];omega,k0,k1,k2,k3,by rw[hlx];exact hc⟩⟩
   |false=>
    have hc':BX (BR L (i+4)) 4 ⟨#[41]⟩=false:=by rw[hlx];exact hc
    exact⟨by simp only[Da,Bool.false_eq_true,and_false,if_false];exact hi4,.inr ⟨rfl,i4,x4,by rw[hii];unfold GK;rw[if_neg (by rw[k0];decide),if_neg (by rw[k1];decide),if_neg (by rw[k2];decide),if_neg (by rw[k3];decide),if_pos hc'],hx4,by simp only[D9,if_true,Bool.false_eq_true,if_false]⟩⟩
  ·have hne: ¬e4=0:=by omega
   exact⟨by simp only[Da,hne,false_and,if_false];exact hi4,.inr ⟨by simp only[EP,if_neg hne];exact he,by simp only[D9,if_neg hne];exact hbad⟩⟩
 have h44:e5=0→e4=0:=fun h=>ME ee h
 rw[ei,ee,ew]
 clear ei ee ew
 simp only[RS,Cp,List.cons_append,List.nil_append]
 intro ν fr;have nuE:=And.intro (fr.mem (b:=n5) (by simp)) (And.intro (fr.mem (b:=n4) (by simp)) (fr.nu))
 simp (maxDischargeDepth:=16) only[AX,↓AW,simprocAttr,forall_const,nuE,fr.2,Dh,d45]
 clear nuE fr
 refine⟨nm,nn,i5,e5,w5,rfl,hi5,SubA.fresh (AK (by simp[d45]) (A8 g5)) (SubA.fresh (A8 g4) (SubA.refl _)), ?_⟩
 rcases hS5 with⟨he,hw,hii,k0,k1,k2,k3,k4⟩|⟨he,hbad⟩
 ·refine .inl ⟨he,hw, ?_⟩
  rw[hnm' (h23 (h44 he)),hnn' (h44 he),hii]
  unfold GK
  rw[if_neg (by rw[k0];decide),if_neg (by rw[k1];decide),if_neg (by rw[k2];decide),if_neg (by rw[k3];decide),if_neg (by rw[k4];decide)]
 ·exact .inr ⟨he,hbad⟩
end Go.Proofs.YtfphceknmgadgaaGreatDoor
namespace Go.Proofs.YtfphceknmgadgaaGreatDoor
open Go.Vm
set_option maxHeartbeats 4000000
set_option maxRecDepth 20000
theorem ER{x:LR}{k k':Int}{t:ByteArray}(h:x.k=k)(hk:k≠k'):BX x k' t=false:=by
 unfold BX
 rw[h]
 simp[hk]
theorem ZL(rb:Nat)(lp:Option Addr)(lcap:Nat)(L:List LR)(A:AH)(hp:RsOk rb lp L A)(i:Nat)(hi:i<L.length)(w:Int)(hun: ∀k A' w,i<k→k<L.length→RsOk rb lp L A'→LF 163 5 rb lp lcap L A' k w)(hex: ∀k A' w,i<k→k<L.length→RsOk rb lp L A'→LF 91 0 rb lp lcap L A' k w):AM Tryz.prog 163 #[.pointer (some ⟨rb,0,none⟩)] (RS rb lp lcap L i 0 w A) (fun u_ A_=>mT rb lp lcap L A w (Pr L (.lv 5) i) u_ A_):=by
 refine AR ⟨Tryz.prog,163,Tryz.f163,84,[0,2,3,4],⟨[163,91,113,152,165,166],none⟩,[(3,.p [(0,0),(1,0),(2,0),(3,0),(4,0),(5,0),(6,0),(7,0),(8,0),(9,0),(10,1),(11,2)])],_⟩ rfl (args:=[_]) Tryz.func163 rfl (by kernel_rfl) Tryz.ntmps163 (by simp) (by kernel_rfl) ?_
 intro ν fr;have nuE:=fr.nu
 obtain⟨x,hx,hlx⟩:=Bw hi
 obtain⟨bk,off,cs,ty,fr0,hlp,h⟩:=hp.at hx
 have hl:=hp.hl
 have lt:((i:Int)<(L.length:Int))=True:=eq_true (by omega)
 have li:((i:Int)<0)=False:=eq_false (by omega)
 have we:IntKind.i64.wrap ((i:Int)+1)=((i+1:Nat):Int):=by rw[Ak (by omega) (by omega)];omega
 have f0:=fr.2 0
 have f1:=fr.2 1
 have n01:(ν 1=ν 0)=False:=by simp[nuE]
 have n10:(ν 0=ν 1)=False:=by simp[nuE]
 obtain⟨m1,m2⟩:=DB f0
 obtain⟨m3,m4⟩:=DB f1
 obtain⟨m5,m6⟩:=BF ((CL hp).none f0) h.hb
 have sf:=fun(o o':Obj)=>eq_true (SubA.fresh (o:=o) (AK (o:=o') n10 f1) (SubA.refl _))
 simp only[RS,Cp,hlp]at sf
 simp only[RS,Cp,hlp]
 simp (maxDischargeDepth:=16) only[AX,↓AW,simprocAttr,forall_const,nuE,fr.2,Dh,lt,li,h.hb,h.n1,h.n2,h.c0,h.c1,h.c2,h.c3,h.hc,m1,m2,m3,m4,m5,m6,sf]
 rw[←hlp]
 have dst_:((ν 0=ν 1)=False)∧((ν 1=ν 0)=False):=(by simp[nuE]);generalize ν 0=n2 at dst_  f0 f1 n01 n10 m1 m2 m3 m4 ⊢;generalize ν 1=n3 at dst_  f0 f1 n01 n10 m1 m2 m3 m4⊢
 clear nuE fr sf
 have d23:=dst_
 clear dst_
 have sX: ∀{j:Nat} {e w:Int} {A':AH} (o o':Obj),Vm.AA (RS rb lp lcap L j e w A') n2=none→Vm.AA (RS rb lp lcap L j e w A') n3=none→SubA (RS rb lp lcap L j e w A') ((n3,o)::(n2,o')::RS rb lp lcap L j e w A'):=fun o o' h2 h3=>SubA.fresh (AK (by simp[d23]) h3) (SubA.fresh h2 (SubA.refl _))
 cases h1:BX x 1 ⟨#[110,111,116]⟩with
 | true=>
  have htk:=CZ rb lp lcap L A hp i x hx 0 w 1 ⟨#[110,111,116]⟩
  rw[Ky,h1]at htk
  simp only[if_true]at htk
  refine AM.ownX (Y:=[(n3,_),(n2,_)]) htk (dis2 f1 f0) ?_
  rintro v D ⟨rfl,hD⟩ dD
  refine⟨_,hD, ?_⟩
  clear hD dD D htk
  simp only[RS,Cp,List.cons_append,List.nil_append]
  intro ν fr;have nuE:=And.intro (fr.mem (b:=n3) (by simp)) (And.intro (fr.mem (b:=n2) (by simp)) (fr.nu))
  simp (maxDischargeDepth:=16) only[AX,↓AW,simprocAttr,forall_const,nuE,fr.2,Dh,d23,m1,m2,m3,m4]
  clear nuE fr
  have hn2:=DZ hp.he hx (by rw[Bu h1];decide)
  have hu:EW (BR L i)=.one 4:=by rw[hlx];unfold EW;rw[if_pos h1]
  refine AM.ownX (Y:=[(n3,_),(n2,_)]) (hun (i+1) A w (by omega) hn2 hp) (dis2 (A8 f1) (A8 f0)) ?_
  rintro v D ⟨r,k,e2,w2,A2,rfl,hk,hs2,hp2,hD,hst2⟩ dD
  refine⟨_,hD, ?_⟩
  have g23:Vm.AA (RS rb lp lcap L k e2 w2 A2) n3=none:=hD.none (dD n3 (by simp[Vm.AA]))
  have g22:Vm.AA (RS rb lp lcap L k e2 w2 A2) n2=none:=hD.none (dD n2 (by simp[Vm.AA,d23]))
  clear hD dD D
  simp only[RS,Cp,List.cons_append,List.nil_append,C5,Ck]
  intro ν fr;have nuE:=And.intro (fr.mem (b:=n3) (by simp)) (And.intro (fr.mem (b:=n2) (by simp)) (fr.nu))
  have f5:Vm.AA ((n3,.cells #[.int .i64 x.k,.string x.t,.int .i64 x.n,.int .i64 (x.a:Int)] 51)::(n2,.cells #[.int .i64 0,.string ⟨#[]⟩,.string ⟨#[]⟩,.int .i64 0,.slice none 0 0] 36)::RS rb lp lcap L k e2 w2 A2) (ν 0)=none:=fr.2 0
  simp (maxDischargeDepth:=16) only[AX,↓AW,simprocAttr,forall_const,nuE,fr.2,Dh,d23,OU]
  have dst_:((ν 0=n3)=False)∧((ν 0=n2)=False)∧((n3=ν 0)=False)∧((n2=ν 0)=False):=(by simp[nuE]);generalize ν 0=n5 at dst_  f5⊢
  clear nuE fr
  have f5':Vm.AA (RS rb lp lcap L k e2 w2 A2) n5=none:=(sX _ _ g22 g23).none f5
  have f5A:Vm.AA A2 n5=none:=(CL hp2).none f5'
  have o53:(n5=rb)=False∧(rb=n5)=False:=DB f5'
  refine⟨⟨4,eB,eB,0,some ⟨n5,0,none⟩,1,1⟩,k,e2,w2,A2++[(n5,.cells #[.int .i64 r.op,.string r.nm,.string r.tx,.int .i64 r.n,.slice r.p r.len r.cap] 36)],rfl,hk,SubA.trans hs2 (SubA.left _ _),⟨AJ hp2.nr (by simp[Vm.AA,o53]),hp2.hL.mono (SubA.left _ _),hp2.hl,hp2.he⟩, ?_, ?_⟩
  ·refine SubA.both (X:=RS rb lp lcap L k e2 w2 A2) (SubA.fresh (AK (by simp[dst_]) (AK (by simp[dst_]) f5')) (SubA.fresh (AK (by simp[d23]) g23) (SubA.fresh g22 (SubA.refl _)))) (SubA.left [_] _)
  ·rcases hst2 with⟨h1,h2,t,h3,h4⟩|⟨h1,jj,z,h2,h3,h4⟩
   ·exact .inl ⟨h1,h2,UB 4 t,.unO hu h3,(h4.mono (SubA.left _ _)).one ⟨by simp,(Pu n5 _ r []).mono (Dis.one f5A).symm.right⟩⟩
   ·exact .inr ⟨h1,jj,z,.unE hu h2,h3,h4⟩
 | false=>
  have htk:=CZ rb lp lcap L A hp i x hx 0 w 1 ⟨#[110,111,116]⟩
  rw[Ky,h1]at htk
  simp only[Bool.false_eq_true,if_false]at htk
  refine AM.ownX (Y:=[(n3,_),(n2,_)]) htk (dis2 f1 f0) ?_
  rintro v D ⟨rfl,hD⟩ dD
  refine⟨_,hD, ?_⟩
  clear hD dD D htk
  simp only[RS,Cp,List.cons_append,List.nil_append]
  intro ν fr;have nuE:=And.intro (fr.mem (b:=n3) (by simp)) (And.intro (fr.mem (b:=n2) (by simp)) (fr.nu))
  simp (maxDischargeDepth:=16) only[AX,↓AW,simprocAttr,forall_const,nuE,fr.2,Dh,d23,m1,m2,m3,m4]
  clear nuE fr
  cases h2:BX x 4 ⟨#[45]⟩with
  | true=>
   have htk:=CZ rb lp lcap L A hp i x hx 0 w 4 ⟨#[45]⟩
   rw[Ky,h2]at htk
   simp only[if_true]at htk
   refine AM.ownX (Y:=[(n3,_),(n2,_)]) htk (dis2 f1 f0) ?_
   rintro v D ⟨rfl,hD⟩ dD
   refine⟨_,hD, ?_⟩
   clear hD dD D htk
   simp only[RS,Cp,List.cons_append,List.nil_append]
   intro ν fr;have nuE:=And.intro (fr.mem (b:=n3) (by simp)) (And.intro (fr.mem (b:=n2) (by simp)) (fr.nu))
   simp (maxDischargeDepth:=16) only[AX,↓AW,simprocAttr,forall_const,nuE,fr.2,Dh,d23,m1,m2,m3,m4]
   clear nuE fr
   have hn2:=DZ hp.he hx (by rw[Bu h2];decide)
   have hu:EW (BR L i)=.one 5:=by rw[hlx];unfold EW;rw[if_neg (by rw[h1];decide),if_pos h2]
   refine AM.ownX (Y:=[(n3,_),(n2,_)]) (hun (i+1) A w (by omega) hn2 hp) (dis2 (A8 f1) (A8 f0)) ?_
   rintro v D ⟨r,k,e2,w2,A2,rfl,hk,hs2,hp2,hD,hst2⟩ dD
   refine⟨_,hD, ?_⟩
   have g23:Vm.AA (RS rb lp lcap L k e2 w2 A2) n3=none:=hD.none (dD n3 (by simp[Vm.AA]))
   have g22:Vm.AA (RS rb lp lcap L k e2 w2 A2) n2=none:=hD.none (dD n2 (by simp[Vm.AA,d23]))
   clear hD dD D
   simp only[RS,Cp,List.cons_append,List.nil_append,C5,Ck]
   intro ν fr;have nuE:=And.intro (fr.mem (b:=n3) (by simp)) (And.intro (fr.mem (b:=n2) (by simp)) (fr.nu))
   have f5:Vm.AA ((n3,.cells #[.int .i64 x.k,.string x.t,.int .i64 x.n,.int .i64 (x.a:Int)] 51)::(n2,.cells #[.int .i64 0,.string ⟨#[]⟩,.string ⟨#[]⟩,.int .i64 0,.slice none 0 0] 36)::RS rb lp lcap L k e2 w2 A2) (ν 0)=none:=fr.2 0
   simp (maxDischargeDepth:=16) only[AX,↓AW,simprocAttr,forall_const,nuE,fr.2,Dh,d23,OU]
   have dst_:((ν 0=n3)=False)∧((ν 0=n2)=False)∧((n3=ν 0)=False)∧((n2=ν 0)=False):=(by simp[nuE]);generalize ν 0=n5 at dst_  f5⊢
   clear nuE fr
   have f5':Vm.AA (RS rb lp lcap L k e2 w2 A2) n5=none:=(sX _ _ g22 g23).none f5
   have f5A:Vm.AA A2 n5=none:=(CL hp2).none f5'
   have o53:(n5=rb)=False∧(rb=n5)=False:=DB f5'
   refine⟨⟨5,eB,eB,0,some ⟨n5,0,none⟩,1,1⟩,k,e2,w2,A2++[(n5,.cells #[.int .i64 r.op,.string r.nm,.string r.tx,.int .i64 r.n,.slice r.p r.len r.cap] 36)],rfl,hk,SubA.trans hs2 (SubA.left _ _),⟨AJ hp2.nr (by simp[Vm.AA,o53]),hp2.hL.mono (SubA.left _ _),hp2.hl,hp2.he⟩, ?_, ?_⟩
   ·refine SubA.both (X:=RS rb lp lcap L k e2 w2 A2) (SubA.fresh (AK (by simp[dst_]) (AK (by simp[dst_]) f5')) (SubA.fresh (AK (by simp[d23]) g23) (SubA.fresh g22 (SubA.refl _)))) (SubA.left [_] _)
   ·rcases hst2 with⟨h1,h2,t,h3,h4⟩|⟨h1,jj,z,h2,h3,h4⟩
    ·exact .inl ⟨h1,h2,UB 5 t,.unO hu h3,(h4.mono (SubA.left _ _)).one ⟨by simp,(Pu n5 _ r []).mono (Dis.one f5A).symm.right⟩⟩
    ·exact .inr ⟨h1,jj,z,.unE hu h2,h3,h4⟩
  | false=>
   have htk:=CZ rb lp lcap L A hp i x hx 0 w 4 ⟨#[45]⟩
   rw[Ky,h2]at htk
   simp only[Bool.false_eq_true,if_false]at htk
   refine AM.ownX (Y:=[(n3,_),(n2,_)]) htk (dis2 f1 f0) ?_
   rintro v D ⟨rfl,hD⟩ dD
   refine⟨_,hD, ?_⟩
   clear hD dD D htk
   simp only[RS,Cp,List.cons_append,List.nil_append]
   intro ν fr;have nuE:=And.intro (fr.mem (b:=n3) (by simp)) (And.intro (fr.mem (b:=n2) (by simp)) (fr.nu))
   simp (maxDischargeDepth:=16) only[AX,↓AW,simprocAttr,forall_const,nuE,fr.2,Dh,d23,m1,m2,m3,m4]
   clear nuE fr
   cases h3:BX x 4 ⟨#[40]⟩with
   | true=>
    have htk:=CZ rb lp lcap L A hp i x hx 0 w 4 ⟨#[40]⟩
    rw[Ky,h3]at htk
    simp only[if_true]at htk
    refine AM.ownX (Y:=[(n3,_),(n2,_)]) htk (dis2 f1 f0) ?_
    rintro v D ⟨rfl,hD⟩ dD
    refine⟨_,hD, ?_⟩
    clear hD dD D htk
    simp only[RS,Cp,List.cons_append,List.nil_append]
    intro ν fr;have nuE:=And.intro (fr.mem (b:=n3) (by simp)) (And.intro (fr.mem (b:=n2) (by simp)) (fr.nu))
    simp (maxDischargeDepth:=16) only[AX,↓AW,simprocAttr,forall_const,nuE,fr.2,Dh,d23,m1,m2,m3,m4]
    clear nuE fr
    have hn2:=DZ hp.he hx (by rw[Bu h3];decide)
    have hu:EW (BR L i)=.par:=by rw[hlx];unfold EW;have hk:=Bu h3;rw[if_neg (by rw[h1];decide),if_neg (by rw[h2];decide),if_neg (by rw[ER (k':=1) hk (by decide)];decide),if_neg (by rw[ER (k':=1) hk (by decide)];decide),if_pos h3]
    refine AM.ownX (Y:=[(n3,_),(n2,_)]) (hex (i+1) A w (by omega) hn2 hp) (dis2 (A8 f1) (A8 f0)) ?_
    rintro v D ⟨r,k,e2,w2,A2,rfl,hk,hs2,hp2,hD,hst2⟩ dD
    refine⟨_,hD, ?_⟩
    have g23:Vm.AA (RS rb lp lcap L k e2 w2 A2) n3=none:=hD.none (dD n3 (by simp[Vm.AA]))
    have g22:Vm.AA (RS rb lp lcap L k e2 w2 A2) n2=none:=hD.none (dD n2 (by simp[Vm.AA,d23]))
    clear hD dD D
    simp only[RS,Cp,List.cons_append,List.nil_append,C5,Ck]
    intro ν fr;have nuE:=And.intro (fr.mem (b:=n3) (by simp)) (And.intro (fr.mem (b:=n2) (by simp)) (fr.nu))
    have f5:Vm.AA ((n3,.cells #[.int .i64 x.k,.string x.t,.int .i64 x.n,.int .i64 (x.a:Int)] 51)::(n2,.cells #[.int .i64 0,.string ⟨#[]⟩,.string ⟨#[]⟩,.int .i64 0,.slice none 0 0] 36)::RS rb lp lcap L k e2 w2 A2) (ν 0)=none:=fr.2 0
    simp (maxDischargeDepth:=16) only[AX,↓AW,simprocAttr,forall_const,nuE,fr.2,Dh,d23]
    have dst_:((ν 0=n3)=False)∧((ν 0=n2)=False)∧((n3=ν 0)=False)∧((n2=ν 0)=False):=(by simp[nuE]);generalize ν 0=n5 at dst_  f5⊢
    clear nuE fr
    have f5':Vm.AA (RS rb lp lcap L k e2 w2 A2) n5=none:=(sX _ _ g22 g23).none f5
    obtain⟨y,hy,hly⟩:=Bw hk
    obtain⟨m7,m8⟩:=DB f5'
    refine AM.ownX (Y:=[(n5,_),(n3,_),(n2,_)]) (Gu rb lp lcap L A2 hp2 k y hy e2 w2 4 ⟨#[41]⟩) (Tj f5' g23 g22) ?_
    rintro v D ⟨rfl,hD⟩ dD
    refine⟨_,hD, ?_⟩
    clear hD dD D
    have d5:=dst_
    simp only[RS,Cp,List.cons_append,List.nil_append]
    intro ν fr;have nuE:=And.intro (fr.mem (b:=n5) (by simp)) (And.intro (fr.mem (b:=n3) (by simp)) (And.intro (fr.mem (b:=n2) (by simp)) (fr.nu)))
    simp (maxDischargeDepth:=16) only[AX,↓AW,simprocAttr,forall_const,nuE,fr.2,Dh,d23,d5]
    have hwi:Da e2 (BX y 4 ⟨#[41]⟩) k<L.length:=by
     unfold Da
     split
     ·rename_i h;exact DZ hp2.he hy (by rw[Bu h.2];decide)
     ·exact hk
    refine⟨r,Da e2 (BX y 4 ⟨#[41]⟩) k,EP e2 (BX y 4 ⟨#[41]⟩),D9 e2 w2 (BX y 4 ⟨#[41]⟩) y,A2,rfl,hwi,hs2,hp2,SubA.fresh (AK (by simp[d5]) (AK (by simp[d5]) (A8 (e:=e2) (i:=k) (w:=w2) (lcap:=lcap) (lp:=lp) (L:=L) (A:=A2) f5'))) (SubA.fresh (AK (by simp[d23]) (A8 (e:=e2) (i:=k) (w:=w2) (lcap:=lcap) (lp:=lp) (L:=L) (A:=A2) g23)) (SubA.fresh (A8 (e:=e2) (i:=k) (w:=w2) (lcap:=lcap) (lp:=lp) (L:=L) (A:=A2) g22) (SubA.refl _))), ?_⟩
    rcases hst2 with⟨rfl,h2,t,h3,h4⟩|⟨h1,jj,z,h2,h3,h4⟩
    ·cases hc:BX y 4 ⟨#[41]⟩with
     |true=>exact .inl ⟨rfl,by simpa[D9]using h2,t,by simp only[Da,and_self,if_true];exact .paO hu h3 (by rw[hly];exact hc),h4⟩
     |false=>exact .inr ⟨by decide,k,y,by simp only[EP,if_true,Bool.false_eq_true,if_false];exact .paB hu h3 (by rw[hly];exact hc),hy,rfl⟩
    ·exact .inr ⟨by simp only[EP,if_neg h1];exact h1,jj,z,by simp only[EP,if_neg h1];exact .paE hu h2,h3,by simp only[D9,if_neg h1];exact h4⟩
   | false=>
    have htk:=CZ rb lp lcap L A hp i x hx 0 w 4 ⟨#[40]⟩
    rw[Ky,h3]at htk
    simp only[Bool.false_eq_true,if_false]at htk
    refine AM.ownX (Y:=[(n3,_),(n2,_)]) htk (dis2 f1 f0) ?_
    rintro v D ⟨rfl,hD⟩ dD
    refine⟨_,hD, ?_⟩
    clear hD dD D htk
    simp only[RS,Cp,List.cons_append,List.nil_append]
    intro ν fr;have nuE:=And.intro (fr.mem (b:=n3) (by simp)) (And.intro (fr.mem (b:=n2) (by simp)) (fr.nu))
    by_cases hk2:x.k=2
    ·have hk:=hk2
     have hu:EW (BR L i)=.num:=by rw[hlx];unfold EW;rw[if_neg (by rw[ER (k':=1) hk (by decide)];decide),if_neg (by rw[ER (k':=4) hk (by decide)];decide),if_neg (by rw[ER (k':=1) hk (by decide)];decide),if_neg (by rw[ER (k':=1) hk (by decide)];decide),if_neg (by rw[ER (k':=4) hk (by decide)];decide),if_pos hk]
     have hn2:=DZ hp.he hx (by rw[hk];decide)
     have hpr:=Pr.nu (L:=L) hu
     rw[hlx]at hpr
     simp (maxDischargeDepth:=16) only[AX,↓AW,simprocAttr,forall_const,nuE,fr.2,Dh,d23,m1,m2,m3,m4,we,hk2]
     refine⟨⟨1,eB,eB,x.n,none,0,0⟩,i+1,0,w,A,rfl,hn2,SubA.refl _,hp,sX _ _ (A8 f0) (A8 f1),.inl ⟨rfl,rfl,.mk 1 eB eB x.n [],hpr,ExR.leaf _ _ _ _ _ _ _⟩⟩
    by_cases hk3:x.k=3
    ·have hk:=hk3
     have hu:EW (BR L i)=.txt:=by rw[hlx];unfold EW;rw[if_neg (by rw[ER (k':=1) hk (by decide)];decide),if_neg (by rw[ER (k':=4) hk (by decide)];decide),if_neg (by rw[ER (k':=1) hk (by decide)];decide),if_neg (by rw[ER (k':=1) hk (by decide)];decide),if_neg (by rw[ER (k':=4) hk (by decide)];decide),if_neg (by rw[hk];decide),if_pos hk]
     have hn2:=DZ hp.he hx (by rw[hk];decide)
     have hpr:=Pr.te (L:=L) hu
     rw[hlx]at hpr
     simp (maxDischargeDepth:=16) only[AX,↓AW,simprocAttr,forall_const,nuE,fr.2,Dh,d23,m1,m2,m3,m4,we,hk3]
     refine⟨⟨2,eB,x.t,0,none,0,0⟩,i+1,0,w,A,rfl,hn2,SubA.refl _,hp,sX _ _ (A8 f0) (A8 f1),.inl ⟨rfl,rfl,.mk 2 eB x.t 0 [],hpr,ExR.leaf _ _ _ _ _ _ _⟩⟩
    simp (maxDischargeDepth:=16) only[AX,↓AW,simprocAttr,forall_const,nuE,fr.2,Dh,d23,m1,m2,m3,m4,we,eq_false hk2,eq_false hk3]
    clear nuE fr
    cases h4:BX x 1 ⟨#[99,111,117,110,116]⟩with
    |true=>
     have htk:=CZ rb lp lcap L A hp i x hx 0 w 1 ⟨#[99,111,117,110,116]⟩
     rw[Ky,h4]at htk
     simp only[if_true]at htk
     refine AM.ownX (Y:=[(n3,_),(n2,_)]) htk (dis2 f1 f0) ?_
     rintro v D ⟨rfl,hD⟩ dD
     refine⟨_,hD, ?_⟩
     clear hD dD D htk
     simp only[RS,Cp,List.cons_append,List.nil_append]
     intro ν fr;have nuE:=And.intro (fr.mem (b:=n3) (by simp)) (And.intro (fr.mem (b:=n2) (by simp)) (fr.nu))
     simp (maxDischargeDepth:=16) only[AX,↓AW,simprocAttr,forall_const,nuE,fr.2,Dh,d23,m1,m2,m3,m4]
     clear nuE fr
     have hn2:=DZ hp.he hx (by rw[Bu h4];decide)
     have hu:EW (BR L i)=.use 16:=by rw[hlx];unfold EW;rw[if_neg (by rw[h1];decide),if_neg (by rw[h2];decide),if_pos h4]
     refine AM.ownX (Y:=[(n3,_),(n2,_)]) (Us rb lp lcap L A hp (i+1) hn2 w 16) (dis2 (A8 f1) (A8 f0)) ?_
     rintro v D ⟨nm,n,k,e2,w2,rfl,hk,hD,hst2⟩ dD
     refine⟨_,hD, ?_⟩
     clear hD dD D
     simp only[RS,Cp,List.cons_append,List.nil_append,C5,Ck]
     intro ν fr;have nuE:=And.intro (fr.mem (b:=n3) (by simp)) (And.intro (fr.mem (b:=n2) (by simp)) (fr.nu))
     simp (maxDischargeDepth:=16) only[AX,↓AW,simprocAttr,forall_const,nuE,fr.2,Dh,d23]
     refine⟨⟨16,nm,eB,n,none,0,0⟩,k,e2,w2,A,rfl,hk,SubA.refl _,hp,sX _ _ (A8 f0) (A8 f1), ?_⟩
     rcases hst2 with⟨h1,h2,h3⟩|⟨h1,jj,z,h2,h3,h4⟩
     ·exact .inl ⟨h1,h2,.mk 16 nm eB n [],.usO hu h3,ExR.leaf _ _ _ _ _ _ _⟩
     ·exact .inr ⟨by omega,jj,z,by rw[h1];exact .usE hu h2 (by decide),h3,h4⟩
    | false=>
     have htk:=CZ rb lp lcap L A hp i x hx 0 w 1 ⟨#[99,111,117,110,116]⟩
     rw[Ky,h4]at htk
     simp only[Bool.false_eq_true,if_false]at htk
     refine AM.ownX (Y:=[(n3,_),(n2,_)]) htk (dis2 f1 f0) ?_
     rintro v D ⟨rfl,hD⟩ dD
     refine⟨_,hD, ?_⟩
     clear hD dD D htk
     simp only[RS,Cp,List.cons_append,List.nil_append]
     intro ν fr;have nuE:=And.intro (fr.mem (b:=n3) (by simp)) (And.intro (fr.mem (b:=n2) (by simp)) (fr.nu))
     simp (maxDischargeDepth:=16) only[AX,↓AW,simprocAttr,forall_const,nuE,fr.2,Dh,d23,m1,m2,m3,m4]
     clear nuE fr
     cases h5:BX x 1 ⟨#[115,117,109]⟩with
     |true=>
      have htk:=CZ rb lp lcap L A hp i x hx 0 w 1 ⟨#[115,117,109]⟩
      rw[Ky,h5]at htk
      simp only[if_true]at htk
      refine AM.ownX (Y:=[(n3,_),(n2,_)]) htk (dis2 f1 f0) ?_
      rintro v D ⟨rfl,hD⟩ dD
      refine⟨_,hD, ?_⟩
      clear hD dD D htk
      simp only[RS,Cp,List.cons_append,List.nil_append]
      intro ν fr;have nuE:=And.intro (fr.mem (b:=n3) (by simp)) (And.intro (fr.mem (b:=n2) (by simp)) (fr.nu))
      simp (maxDischargeDepth:=16) only[AX,↓AW,simprocAttr,forall_const,nuE,fr.2,Dh,d23,m1,m2,m3,m4]
      clear nuE fr
      have hn2:=DZ hp.he hx (by rw[Bu h5];decide)
      have hu:EW (BR L i)=.use 17:=by rw[hlx];unfold EW;rw[if_neg (by rw[h1];decide),if_neg (by rw[h2];decide),if_neg (by rw[h4];decide),if_pos h5]
      refine AM.ownX (Y:=[(n3,_),(n2,_)]) (Us rb lp lcap L A hp (i+1) hn2 w 17) (dis2 (A8 f1) (A8 f0)) ?_
      rintro v D ⟨nm,n,k,e2,w2,rfl,hk,hD,hst2⟩ dD
      refine⟨_,hD, ?_⟩
      clear hD dD D
      simp only[RS,Cp,List.cons_append,List.nil_append,C5,Ck]
      intro ν fr;have nuE:=And.intro (fr.mem (b:=n3) (by simp)) (And.intro (fr.mem (b:=n2) (by simp)) (fr.nu))
      simp (maxDischargeDepth:=16) only[AX,↓AW,simprocAttr,forall_const,nuE,fr.2,Dh,d23]
      refine⟨⟨17,nm,eB,n,none,0,0⟩,k,e2,w2,A,rfl,hk,SubA.refl _,hp,sX _ _ (A8 f0) (A8 f1), ?_⟩
      rcases hst2 with⟨h1,h2,h3⟩|⟨h1,jj,z,h2,h3,h4⟩
      ·exact .inl ⟨h1,h2,.mk 17 nm eB n [],.usO hu h3,ExR.leaf _ _ _ _ _ _ _⟩
      ·exact .inr ⟨by omega,jj,z,by rw[h1];exact .usE hu h2 (by decide),h3,h4⟩
     | false=>
      have htk:=CZ rb lp lcap L A hp i x hx 0 w 1 ⟨#[115,117,109]⟩
      rw[Ky,h5]at htk
      simp only[Bool.false_eq_true,if_false]at htk
      refine AM.ownX (Y:=[(n3,_),(n2,_)]) htk (dis2 f1 f0) ?_
      rintro v D ⟨rfl,hD⟩ dD
      refine⟨_,hD, ?_⟩
      clear hD dD D htk
      simp only[RS,Cp,List.cons_append,List.nil_append]
      intro ν fr;have nuE:=And.intro (fr.mem (b:=n3) (by simp)) (And.intro (fr.mem (b:=n2) (by simp)) (fr.nu))
      simp (maxDischargeDepth:=16) only[AX,↓AW,simprocAttr,forall_const,nuE,fr.2,Dh,d23,m1,m2,m3,m4]
      clear nuE fr
      refine AM.ownX (Y:=[(n3,_),(n2,_)]) (Wx rb lp lcap L A hp i x hx 0 w) (dis2 f1 f0) ?_
      rintro v D ⟨rfl,hD⟩ dD
      refine⟨_,hD, ?_⟩
      clear hD dD D
      simp only[RS,Cp,List.cons_append,List.nil_append]
      intro ν fr;have nuE:=And.intro (fr.mem (b:=n3) (by simp)) (And.intro (fr.mem (b:=n2) (by simp)) (fr.nu))
      simp (maxDischargeDepth:=16) only[AX,↓AW,simprocAttr,forall_const,nuE,fr.2,Dh,d23,m1,m2,m3,m4]
      cases hn:FA x with
      |true=>
       have hu:EW (BR L i)=.nam:=by rw[hlx];unfold EW;rw[if_neg (by rw[h1];decide),if_neg (by rw[h2];decide),if_neg (by rw[h4];decide),if_neg (by rw[h5];decide),if_neg (by rw[h3];decide),if_neg hk2,if_neg hk3,if_pos hn]
       have hpr:=Pr.na (L:=L) hu
       rw[hlx]at hpr
       have hn2:=DZ hp.he hx (Wc hn)
       exact⟨⟨3,x.t,eB,0,none,0,0⟩,i+1,0,w,A,by simp[C5,Ck,eB],hn2,SubA.refl _,hp,sX _ _ (A8 f0) (A8 f1),.inl ⟨rfl,rfl,.mk 3 x.t eB 0 [],hpr,ExR.leaf _ _ _ _ _ _ _⟩⟩
      |false=>
       have hu:EW (BR L i)=.bad:=by rw[hlx];unfold EW;rw[if_neg (by rw[h1];decide),if_neg (by rw[h2];decide),if_neg (by rw[h4];decide),if_neg (by rw[h5];decide),if_neg (by rw[h3];decide),if_neg hk2,if_neg hk3,if_neg (by rw[hn];decide)]
       exact⟨⟨3,eB,eB,0,none,0,0⟩,i,2,(x.a:Int),A,by simp[C5,Ck,eB],hi,SubA.refl _,hp,sX _ _ (A8 f0) (A8 f1),.inr ⟨by decide,i,x,.ba hu,hx,rfl⟩⟩
end Go.Proofs.YtfphceknmgadgaaGreatDoor
namespace Go.Proofs.YtfphceknmgadgaaGreatDoor
open Go.Vm
set_option maxHeartbeats 4000000
set_option maxRecDepth 20000
structure LrAll(rb:Nat)(lp:Option Addr)(lcap:Nat)(L:List LR)(A:AH)(i:Nat):Prop where
 un: ∀w,LF 163 5 rb lp lcap L A i w
 pr: ∀w,LF 160 4 rb lp lcap L A i w
 su: ∀w,LF 151 3 rb lp lcap L A i w
 cm: ∀w,LF 136 2 rb lp lcap L A i w
 cj: ∀w,LF 112 1 rb lp lcap L A i w
 ex: ∀w,LF 91 0 rb lp lcap L A i w
theorem oQ{L:List LR}{i:Nat}{Q:Nat→AH→Int→Prop}{O:AH→Prop}(h1: ∀A w,O A→Q i A w)(h2: ∀k A w,i<k→k<L.length→O A→Q k A w): ∀k A w,i≤k→k<L.length→O A→Q k A w:=fun k A w hk hl ho=>by
 rcases Nat.lt_or_ge i k with h|h
 ·exact h2 k A w h hl ho
 ·have:k=i:=by omega
  subst this
  exact h1 A w ho
theorem e6(rb:Nat)(lp:Option Addr)(lcap:Nat)(L:List LR): ∀(m i:Nat) (A:AH),L.length - i=m→i<L.length→RsOk rb lp L A→LrAll rb lp lcap L A i:=by
 intro m
 induction m using Nat.strongRecOn with
 |ind m ih=>
  intro i A hm hi hp
  have all: ∀k A',i<k→k<L.length→RsOk rb lp L A'→LrAll rb lp lcap L A' k:=fun k A' h1 h2 h3=>ih (L.length - k) (by omega) k A' rfl h2 h3
  have un: ∀A' w,RsOk rb lp L A'→LF 163 5 rb lp lcap L A' i w:=fun A' w h=>ZL rb lp lcap L A' h i hi w (fun k A2 w h1 h2 h3=>(all k A2 h1 h2 h3).un w) (fun k A2 w h1 h2 h3=>(all k A2 h1 h2 h3).ex w)
  have pr: ∀A' w,RsOk rb lp L A'→LF 160 4 rb lp lcap L A' i w:=fun A' w h=>ep rb lp lcap L A' h i hi w (oQ (Q:=fun k A w=>LF 163 5 rb lp lcap L A k w) un fun k A2 w h1 h2 h3=>(all k A2 h1 h2 h3).un w)
  have su: ∀A' w,RsOk rb lp L A'→LF 151 3 rb lp lcap L A' i w:=fun A' w h=>mg rb lp lcap L A' h i hi w (oQ (Q:=fun k A w=>LF 160 4 rb lp lcap L A k w) pr fun k A2 w h1 h2 h3=>(all k A2 h1 h2 h3).pr w)
  have cm: ∀A' w,RsOk rb lp L A'→LF 136 2 rb lp lcap L A' i w:=fun A' w h=>fz rb lp lcap L A' h i hi w (oQ (Q:=fun k A w=>LF 151 3 rb lp lcap L A k w) su fun k A2 w h1 h2 h3=>(all k A2 h1 h2 h3).su w)
  have cj: ∀A' w,RsOk rb lp L A'→LF 112 1 rb lp lcap L A' i w:=fun A' w h=>fe rb lp lcap L A' h i hi w (oQ (Q:=fun k A w=>LF 136 2 rb lp lcap L A k w) cm fun k A2 w h1 h2 h3=>(all k A2 h1 h2 h3).cm w)
  exact⟨fun w=>un A w hp,fun w=>pr A w hp,fun w=>su A w hp,fun w=>cm A w hp,fun w=>cj A w hp,fun w=>ed rb lp lcap L A hp i hi w (oQ (Q:=fun k A w=>LF 112 1 rb lp lcap L A k w) cj fun k A2 w h1 h2 h3=>(all k A2 h1 h2 h3).cj w)⟩
theorem mW(rb:Nat)(lp:Option Addr)(lcap:Nat)(L:List LR)(A:AH)(hp:RsOk rb lp L A)(i:Nat)(hi:i<L.length)(e w:Int):
  AM Tryz.prog 91 #[.pointer (some ⟨rb,0,none⟩)] (RS rb lp lcap L i e w A) fun u D=> ∃r i' e' w' A',u=C5 r∧i'<L.length∧SubA A A'∧RsOk rb lp L A'∧SubA (RS rb lp lcap L i' e' w' A') D∧((e=0∧e'=0∧w'=w∧ ∃t,Pr L (.lv 0) i (.ok t i')∧ExR A' t r)∨(e=0∧e'≠0∧ ∃j x,Pr L (.lv 0) i (.er e' j)∧L[j]? =some x∧w'=(x.a:Int))∨(e≠0∧e'=e∧w'=w)):=
 rT (l:=0) hp hi (fun he=>(e6 rb lp lcap L _ i A rfl hi hp).ex w) (fun he=>qb rb lp lcap L A i e w he)
end Go.Proofs.YtfphceknmgadgaaGreatDoor
namespace Go.Proofs.YtfphceknmgadgaaGreatDoor
open Go.Vm
set_option maxHeartbeats 4000000
set_option maxRecDepth 20000
theorem VJ(A:AH)(s:ByteArray)(hs:s.size≤100000):AM Tryz.prog 22 #[.string s] A fun u D=> ∃v B,u=v∧(∃w,v=.tuple #[w,.int .i64 (AV s).1,.int .i64 ((AV s).2.1:Nat)]∧Cq LR.cells 4 51 w B (AV s).2.2)∧Dis B A∧SubA (B++A) D:=by
 intro h hA
 unfold E4
 rw[if_pos (by kernel_rfl)]
 refine(fa s hs h).mono0 ?_
 rintro r h' ⟨v,rfl,o,g⟩
 obtain⟨B,o2,sB,hb⟩:=b7 o
 have dB:Dis B A:=fun x hx=>by
  cases hl:Vm.AA A x with
  |none=>exact absurd hl hx
  |some ob=>
   have:=hA.lt hl
   cases hB:Vm.AA B x with
   |none=>rfl
   |some o3=>have:=hb x (by rw[hB];simp);omega
 refine⟨_,B++A,rfl,DO.both sB (hA.grew g),⟨g.le,fun b hlt hl=>⟨g.old b hlt,AJ ?_ hl⟩⟩,_,B,rfl,⟨v,rfl,.inl o2⟩,dB,SubA.refl _⟩
 cases hB:Vm.AA B b with
 |none=>rfl
 |some o3=>have:=hb b (by rw[hB];simp);omega
theorem XH(A:AH)(s:ByteArray)(hs:s.size≤100000):AM Tryz.prog 65 #[.string s] A (fun u_ A_=> ∃v B,u_=v∧(∃e at_ t r,PxO s e at_ t∧v=.tuple #[C5 r,.int .i64 e,.int .i64 (at_:Nat)]∧ExR B t r)∧Dis B A∧SubA (B++A) A_):=by
 refine AR ⟨Tryz.prog,65,Tryz.f65,55,[0,2,3,4,5,6,7,8,9],⟨[22,91,92],none⟩,[(6,.q false),(9,.p [(0,0),(1,0),(2,0),(3,0),(4,0),(5,0),(6,0),(7,0),(8,0),(9,1),(10,0),(11,0)])],_⟩ rfl (args:=[_]) Tryz.func65 rfl (by kernel_rfl) Tryz.ntmps65 (by simp) (by kernel_rfl) ?_
 intro ν fr;have nuE:=fr.nu
 have f0:=fr.2 0
 simp (maxDischargeDepth:=16) only[AX,↓AW,simprocAttr,forall_const,nuE,fr.2,Dh]
 have dst_:True:=(by simp[nuE]);generalize ν 0=n2 at dst_  f0⊢
 clear nuE fr dst_
 refine AM.newX (VJ A s hs) (SubA.fresh f0 (SubA.refl _)) ?_
 rintro v B ⟨w,rfl,ho⟩ hdB
 have hB2:Vm.AA B n2=none:=hdB n2 (by simp[Vm.AA])
 have dBA:Dis B A:=Dis.subr hdB (SubA.fresh f0 (SubA.refl _))
 by_cases h0:(AV s).1=0
 rotate_left
 ·refine⟨(n2,.cells #[.int .i64 0,.string ⟨#[]⟩,.string ⟨#[]⟩,.int .i64 0,.slice none 0 0] 36)::A,hdB.right, ?_⟩
  have ne0:((AV s).1 !=0)=true:=by simp[h0]
  intro ν fr;have nuE:=And.intro (fr.mem (b:=n2) (by simp)) (fr.nu)
  simp (maxDischargeDepth:=16) only[AX,↓AW,simprocAttr,forall_const,nuE,fr.2,Dh,ne0]
  exact⟨_,[],rfl,⟨_,_,z0,r0,.scan h0,rfl,ExR.leaf _ _ _ _ _ _ _⟩,Dis.nil _,SubA.fresh f0 (SubA.refl _)⟩
 obtain⟨p,cap,rfl,hc1,hL⟩:=Cq.read (f:=LR.cells) (n:=4) (fun x=>rfl) ho
 refine⟨(n2,.cells #[.int .i64 0,.string ⟨#[]⟩,.string ⟨#[]⟩,.int .i64 0,.slice none 0 0] 36)::(B++A),SubA.both (X:=[(n2,.cells #[.int .i64 0,.string ⟨#[]⟩,.string ⟨#[]⟩,.int .i64 0,.slice none 0 0] 36)]) (SubA.trans (SubA.left [_] _) hdB.right) (SubA.both (SubA.left _ _) (SubA.trans (SubA.fresh f0 (SubA.refl _)) hdB.right)), ?_⟩
 obtain⟨K,hSK,_,_,hlen⟩:=EO h0
 have hend:=Jh h0
 have hpos:0<(AV s).2.2.length:=by rw[hSK];simp
 intro ν fr;have nuE:=And.intro (fr.mem (b:=n2) (by simp)) (fr.nu)
 have fb:Vm.AA ((n2,.cells #[.int .i64 0,.string ⟨#[]⟩,.string ⟨#[]⟩,.int .i64 0,.slice none 0 0] 36)::(B++A)) (ν 0)=none:=fr.2 0
 simp (maxDischargeDepth:=16) only[AX,↓AW,simprocAttr,forall_const,nuE,fr.2,Dh,h0]
 have dst_:((ν 0=n2)=False)∧((n2=ν 0)=False):=(by simp[nuE]);generalize ν 0=rb at dst_  fb⊢
 clear nuE fr
 have d2:=dst_
 have fbBA:Vm.AA (B++A) rb=none:=by simpa only[Vm.AA,d2,if_false]using fb
 have fbB:Vm.AA B rb=none:=(SubA.left B A).none fbBA
 have fbA:Vm.AA A rb=none:=dBA.right.none fbBA
 have hp:RsOk rb p (AV s).2.2 B:=⟨fbB,hL,by omega,hend⟩
 have hE2:Vm.AA (RS rb p cap (AV s).2.2 0 0 0 B) n2=none:=AK (by simp[d2]) hB2
 have dEA:Dis (RS rb p cap (AV s).2.2 0 0 0 B) A:=fun x hx=>by
  have h1:=dBA x hx
  have h2:rb≠x:=fun e=>hx (by rw[←e];exact fbA)
  simp only[RS,Vm.AA,if_neg h2];exact h1
 refine AM.toX (mW rb p cap (AV s).2.2 B hp 0 hpos 0 0) (SubA.app (B:=[(rb,_)]) (SubA.trans (SubA.left B A) (SubA.fresh (AJ hB2 f0) (SubA.refl _)))) ((n2,.cells #[.int .i64 0,.string ⟨#[]⟩,.string ⟨#[]⟩,.int .i64 0,.slice none 0 0] 36)::A) (SubA.fresh fb (SubA.both (X:=[(n2,.cells #[.int .i64 0,.string ⟨#[]⟩,.string ⟨#[]⟩,.int .i64 0,.slice none 0 0] 36)]) (SubA.left [_] _) (SubA.trans dBA.right (SubA.fresh (AJ hB2 f0) (SubA.refl _))))) (Fm hE2 dEA) ?_
 rintro v D ⟨r,i',e',w',A',rfl,hi',hsA,hp',hD,hst⟩ dD
 have hX2:Vm.AA (RS rb p cap (AV s).2.2 i' e' w' A') n2=none:=hD.none (dD n2 (by simp[Vm.AA]))
 have dXA:Dis (RS rb p cap (AV s).2.2 i' e' w' A') A:=Dis.subr (dD.subl hD) (SubA.fresh f0 (SubA.refl _))
 have dA'A:Dis A' A:=dXA.subl (CL hp')
 refine⟨(n2,.cells #[.int .i64 0,.string ⟨#[]⟩,.string ⟨#[]⟩,.int .i64 0,.slice none 0 0] 36)::(RS rb p cap (AV s).2.2 i' e' w' A'++A),SubA.both (X:=[(n2,.cells #[.int .i64 0,.string ⟨#[]⟩,.string ⟨#[]⟩,.int .i64 0,.slice none 0 0] 36)]) (SubA.trans (SubA.left [_] A) dD.right) (SubA.both (SubA.trans hD (SubA.left _ _)) (SubA.trans (SubA.fresh f0 (SubA.refl _)) dD.right)), ?_⟩
 clear dD hD D hdB
 obtain⟨x,hx,hlx⟩:=Bw hi'
 obtain⟨bk,off,cs,ty,frz,hlp,h⟩:=hp'.at hx
 subst hlp
 have lt:((i':Int)<((AV s).2.2.length:Int))=True:=eq_true (by omega)
 have li:((i':Int)<0)=False:=eq_false (by omega)
 have hbA:Vm.AA (A'++A) bk=some (.cells cs ty frz):=SubA.left A' A bk _ h.hb
 obtain⟨m1,m2⟩:=DB hX2
 obtain⟨q1,q2⟩:=BF ((CL hp').none hX2) h.hb
 simp only[RS,Cp,List.cons_append,C5,Ck]
 intro ν fr;have nuE:=And.intro (fr.mem (b:=n2) (by simp)) (And.intro (fr.mem (b:=rb) (by simp)) (fr.nu))
 have f9:Vm.AA ((n2,.cells #[.int .i64 0,.string ⟨#[]⟩,.string ⟨#[]⟩,.int .i64 0,.slice none 0 0] 36)::(RS rb (some ⟨bk,off,none⟩) cap (AV s).2.2 i' e' w' A'++A)) (ν 0)=none:=fr.2 0
 have f9b:(ν 0=bk)=False∧(bk=ν 0)=False:=BF ((SubA.fresh (AJ hX2 f0) (SubA.left _ _)).none f9) ((CL hp') _ _ h.hb)
 have hres:(e'=0∧w'=0∧ ∃t,Pr (AV s).2.2 (.lv 0) 0 (.ok t i')∧ExR A' t r)∨(e'≠0∧ ∃at_:Nat,PxO s e' at_ z0∧w'=(at_:Int)):=by
  rcases hst with⟨_,h1,h2,h3⟩|⟨_,h1,j,z,h2,h3,h4⟩|⟨h1,_⟩
  ·exact .inl ⟨h1,h2,h3⟩
  ·exact .inr ⟨h1,z.a,.er h0 h1 h2 h3,h4⟩
  ·exact absurd rfl h1
 have fin: ∀(e:Int) (at_:Nat),PxO s e at_ z0→ ∀D,SubA A D→ ∃v B,Value.tuple #[.agg #[.int .i64 0,.string ⟨#[]⟩,.string ⟨#[]⟩,.int .i64 0,.slice none 0 0],.int .i64 e,.int .i64 (at_:Nat)]=v∧(∃e at_ t r,PxO s e at_ t∧v=.tuple #[C5 r,.int .i64 e,.int .i64 (at_:Nat)]∧ExR B t r)∧Dis B A∧SubA (B++A) D:=fun e at_ hP D hD=>⟨_,[],rfl,⟨e,at_,z0,r0,hP,rfl,ExR.leaf _ _ _ _ _ _ _⟩,Dis.nil _,hD⟩
 have g9R:Vm.AA (RS rb (some ⟨bk,off,none⟩) cap (AV s).2.2 i' e' w' A'++A) (ν 0)=none:=(SubA.fresh (AJ hX2 f0) (SubA.refl _)).none f9
 have g9X:Vm.AA (RS rb (some ⟨bk,off,none⟩) cap (AV s).2.2 i' e' w' A') (ν 0)=none:=(SubA.left _ A).none g9R
 have g9A:Vm.AA A (ν 0)=none:=dXA.right.none g9R
 have gA9:Vm.AA (A'++A) (ν 0)=none:=AJ ((CL hp').none g9X) g9A
 have gA2:Vm.AA (A'++A) n2=none:=AJ ((CL hp').none hX2) f0
 have gAr:Vm.AA (A'++A) rb=none:=AJ hp'.nr fbA
 by_cases hk:x.k=0
 ·have hk':(x.k !=0)=false:=by simp[hk]
  rcases hres with⟨rfl,rfl,t,ht,hr⟩|⟨he,at_,hP,hw⟩
  ·simp (maxDischargeDepth:=16) only[AX,↓AW,simprocAttr,forall_const,nuE,fr.2,Dh,lt,li,hbA,h.n1,h.n2,q1,q2,f9b,h.c0,hk',m1,m2,d2]
   exact⟨_,A',rfl,⟨0,0,t,r,.ok h0 ht hx hk,rfl,hr⟩,dA'A,SubA.skip gA9 (SubA.skip gA2 (SubA.skip gAr (SubA.refl _)))⟩
  ·have hen:(e' !=0)=true:=by simp[he]
   simp (maxDischargeDepth:=16) only[AX,↓AW,simprocAttr,forall_const,nuE,fr.2,Dh,lt,li,hbA,h.n1,h.n2,q1,q2,f9b,h.c0,hk',m1,m2,d2,hen]
   rw[hw]
   exact fin e' at_ hP _ (SubA.trans dA'A.right (SubA.skip gA9 (SubA.skip gA2 (SubA.skip gAr (SubA.refl _)))))
 ·have hk':(x.k !=0)=true:=by simp[hk]
  simp (maxDischargeDepth:=16) only[AX,↓AW,simprocAttr,forall_const,nuE,fr.2,Dh,lt,li,hbA,h.n1,h.n2,q1,q2,f9b,h.c0,hk',m1,m2,d2]
  have dst_:((ν 0=n2)=False)∧((ν 0=rb)=False)∧((n2=ν 0)=False)∧((rb=ν 0)=False):=(by simp[nuE]);generalize ν 0=n9 at dst_  g9R g9X g9A gA9 f9b f9⊢
  clear nuE fr
  have d9:=dst_
  refine AM.par (Y:=[(n9,_),(n2,_)]) (X:=A) (F2 rb (some ⟨bk,off,none⟩) cap (AV s).2.2 A' hp' i' x hx e' w' 2) (dis2 g9X hX2) dXA (gq g9A f0) ?_
  rintro v D ⟨rfl,hD⟩ dD
  refine⟨_,hD, ?_⟩
  clear hD dD D
  simp only[RS,Cp,List.cons_append,List.nil_append]
  intro ν fr;have nuE:=And.intro (fr.mem (b:=n9) (by simp)) (And.intro (fr.mem (b:=n2) (by simp)) (And.intro (fr.mem (b:=rb) (by simp)) (fr.nu)))
  rcases hres with⟨rfl,rfl,t,ht,hr⟩|⟨he,at_,hP,hw⟩
  ·have hen:(E8 0 2 !=0)=true:=by decide
   simp (maxDischargeDepth:=16) only[AX,↓AW,simprocAttr,forall_const,nuE,fr.2,Dh,d2,d9,m1,m2,hen]
   exact fin 2 x.a (.more h0 ht hx hk) _ (SubA.trans dA'A.right (SubA.skip gA9 (SubA.skip gA2 (SubA.skip gAr (SubA.refl _)))))
  ·have hfe:E8 e' 2=e':=by unfold E8;rw[if_neg he]
   have hfw:G3 e' w' x=(at_:Int):=by unfold G3;rw[if_neg he,hw]
   have hen:(e' !=0)=true:=by simp[he]
   rw[hfe,hfw]
   simp (maxDischargeDepth:=16) only[AX,↓AW,simprocAttr,forall_const,nuE,fr.2,Dh,d2,d9,m1,m2,hen]
   exact fin e' at_ hP _ (SubA.trans dA'A.right (SubA.skip gA9 (SubA.skip gA2 (SubA.skip gAr (SubA.refl _)))))
end Go.Proofs.YtfphceknmgadgaaGreatDoor
