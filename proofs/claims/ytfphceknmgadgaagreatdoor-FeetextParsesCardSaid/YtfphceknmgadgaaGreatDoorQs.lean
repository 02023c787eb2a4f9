/-
The reference parser: products, sums, comparisons.
Conditions: none.
-/
import Derived.Test.YtfphceknmgadgaaGreatDoorQk
set_option linter.unusedSimpArgs false
set_option linter.unusedVariables false
namespace Go.Proofs.YtfphceknmgadgaaGreatDoor
open Go.Vm
set_option maxHeartbeats 4000000
set_option maxRecDepth 20000
theorem CF:type_of% (An @BC (An @BU (An @BS (An @Aw (An @BB (An @BT (An @Bn (An @BN (An @CA (An @CS (An @B9 (An @CR (An @Cm (An @CT (An @CC (An @Bp (An @Bq (An @CQ (An @Be (An @Br (An @CB (An @Bo (An @Bx (An @AU (An @AQ (An @Am (An @Ap (An @Ag (An @BG (An @Aj (An @At (An @Au (An @Ax (An @A4 (An @A5 (An @A7 (An @BA (An @Ce (An @Bs @C2))))))))))))))))))))))))))))))))))))))):=⟨@BC,@BU,@BS,@Aw,@BB,@BT,@Bn,@BN,@CA,@CS,@B9,@CR,@Cm,@CT,@CC,@Bp,@Bq,@CQ,@Be,@Br,@CB,@Bo,@Bx,@AU,@AQ,@Am,@Ap,@Ag,@BG,@Aj,@At,@Au,@Ax,@A4,@A5,@A7,@BA,@Ce,@Bs,@C2⟩
def mT(rb:Nat)(lp:Option Addr)(lcap:Nat)(L:List LR)(A:AH)(w:Int)(q:Rz→Prop)(u:Value)(D:AH):Prop:= ∃r i' e' w' A',u=C5 r∧i'<L.length∧SubA A A'∧RsOk rb lp L A'∧SubA (RS rb lp lcap L i' e' w' A') D∧((e'=0∧w'=w∧ ∃t,q (.ok t i')∧ExR A' t r)∨(e'≠0∧ ∃j x,q (.er e' j)∧L[j]? =some x∧w'=(x.a:Int)))
def LF(f:FuncId)(l:Nat)(rb:Nat)(lp:Option Addr)(lcap:Nat)(L:List LR)(A:AH)(i:Nat)(w:Int):Prop:=AM Tryz.prog f #[.pointer (some ⟨rb,0,none⟩)] (RS rb lp lcap L i 0 w A) (mT rb lp lcap L A w (Pr L (.lv l) i))
theorem RsOk.app{rb:Nat}{lp:Option Addr}{lcap i:Nat}{L:List LR}{e w:Int}{A B M:AH}(hp:RsOk rb lp L A)(hd:Dis B M)(hs:SubA (RS rb lp lcap L i e w A) M):RsOk rb lp L (A++B):=by
 have d:=Dis.subr hd hs
 exact⟨AJ hp.nr (d rb (by simp[RS,Vm.AA])),hp.hL.mono (SubA.left _ _),hp.hl,hp.he⟩
theorem DZ{L:List LR}(he:Po L){j:Nat}{x:LR}(hx:L[j]? =some x)(hk:x.k≠0):j+1<L.length:=he j x hx hk
theorem Fr(A:AH)(op:Int)(a b:Xr):AM Tryz.prog 114 #[.int .i64 op,.agg #[.int .i64 a.op,.string a.nm,.string a.tx,.int .i64 a.n,.slice a.p a.len a.cap],.agg #[.int .i64 b.op,.string b.nm,.string b.tx,.int .i64 b.n,.slice b.p b.len b.cap]] A (fun u_ A_=> ∃v B,u_=v∧(∃p c,v=C5 ⟨op,eB,eB,0,p,2,c⟩∧nh B p [a,b] c)∧Dis B A∧SubA (B++A) A_):=by
 refine AR ⟨Tryz.prog,114,Tryz.f114,12,[0,1,2,4,5,6],⟨[],none⟩,[],_⟩ rfl (args:=[_,_,_]) Tryz.func114 rfl (by kernel_rfl) Tryz.ntmps114 (by simp) (by kernel_rfl) ?_
 intro ν fr;have nuE:=fr.nu
 have f0:=fr.2 0
 have f1:=fr.2 1
 have f2:=fr.2 2
 have f3:=fr.2 3
 simp (maxDischargeDepth:=16) only[AX,↓AW,simprocAttr,forall_const,nuE,fr.2,CF,F5]
 exact⟨_,_,rfl,⟨_,_,rfl,by simp,FW (ν 3) _ a b []⟩,Dis.one f3,SubA.app (B:=[_]) (SubA.fresh (by simp[Vm.AA,nuE,f2]) (SubA.fresh (by simp[Vm.AA,nuE,f1]) (SubA.fresh f0 (SubA.refl _))))⟩
theorem Ky(x:LR)(k:Int)(t:ByteArray):E7 0 x k t=BX x k t:=by simp[E7]
theorem ep(rb:Nat)(lp:Option Addr)(lcap:Nat)(L:List LR)(A:AH)(hp:RsOk rb lp L A)(i:Nat)(hi:i<L.length)(w:Int)(hun: ∀k A' w,i≤k→k<L.length→RsOk rb lp L A'→LF 163 5 rb lp lcap L A' k w):AM Tryz.prog 160 #[.pointer (some ⟨rb,0,none⟩)] (RS rb lp lcap L i 0 w A) (fun u_ A_=>mT rb lp lcap L A w (Pr L (.lv 4) i) u_ A_):=by
 refine AR ⟨Tryz.prog,160,Tryz.f160,13,[0,2,3],⟨[163,113,114],none⟩,[],_⟩ rfl (args:=[_]) Tryz.func160 rfl (by kernel_rfl) Tryz.ntmps160 (by simp) (by kernel_rfl) ?_
 intro ν fr;have nuE:=fr.nu
 have f0:=fr.2 0
 simp (maxDischargeDepth:=16) only[AX,↓AW,simprocAttr,forall_const,nuE,fr.2,CF]
 have dst_:True:=(by simp[nuE]);generalize ν 0=n2 at dst_  f0⊢
 clear nuE fr dst_
 refine AM.ownX (Y:=[(n2,_)]) (hun i A w (Nat.le_refl _) hi hp) (Dis.one f0).symm ?_
 rintro v D ⟨r,j,e',w',A',rfl,hj,hs,hp',hD,hst0⟩ dD
 refine⟨_,hD, ?_⟩
 have g2:Vm.AA (RS rb lp lcap L j e' w' A') n2=none:=hD.none (dD n2 (by simp[Vm.AA]))
 clear hD dD D
 simp only[List.cons_append,List.nil_append,C5,Ck]
 intro ν fr;have nuE:=And.intro (fr.mem (b:=n2) (by simp)) (fr.nu)
 have f3:Vm.AA ((n2,_)::RS rb lp lcap L j e' w' A') (ν 0)=none:=fr.2 0
 simp (maxDischargeDepth:=16) only[AX,↓AW,simprocAttr,forall_const,nuE,fr.2,CF]
 have dst_:((ν 0=n2)=False)∧((n2=ν 0)=False):=(by simp[nuE]);generalize ν 0=n3 at dst_  f3⊢
 clear nuE fr
 have e32:n3≠n2:=fun h=>by rw[h]at f3;simp[Vm.AA]at f3
 have g3:Vm.AA (RS rb lp lcap L j e' w' A') n3=none:=by simpa only[Vm.AA,dst_,if_false]using f3
 have d32:=dst_
 clear f3 f0 dst_
 have hst:(e'=0∧w'=w∧i≤j∧ ∃t,ExR A' t r∧ ∀z,Pr L (.lp 4 t) j z→Pr L (.lv 4) i z)∨(e'≠0∧ ∃jj x,Pr L (.lv 4) i (.er e' jj)∧L[jj]? =some x∧w'=(x.a:Int)):=by
  rcases hst0 with⟨h1,h2,t,h3,h4⟩|⟨h1,jj,x,h2,h3,h4⟩
  ·exact .inl ⟨h1,h2,h3.le,t,h4,fun z hz=>.opO (by decide) (by decide) h3 hz⟩
  ·exact .inr ⟨h1,jj,x,.opE (by decide) (by decide) h2,h3,h4⟩
 clear hst0
 generalize hm:(if e'=0 then L.length - j+1 else 0)=m
 induction m using Nat.strongRecOn generalizing r j e' w' A' with
 | ind m ih=>
  obtain⟨m1,m2⟩:=DB g2
  obtain⟨m3,m4⟩:=DB g3
  have s32: ∀{j:Nat} {e w:Int} {A':AH} (o o':Obj),Vm.AA (RS rb lp lcap L j e w A') n2=none→Vm.AA (RS rb lp lcap L j e w A') n3=none→SubA (RS rb lp lcap L j e w A') ((n3,o)::(n2,o')::RS rb lp lcap L j e w A'):=fun o o' h2 h3=>SubA.fresh (AK d32.2 h3) (SubA.fresh h2 (SubA.refl _))
  rcases hst with⟨rfl,rfl,hij,t,hr,hq⟩|⟨he,jj,x,hq,hx,hw⟩
  rotate_left
  ·simp only[RS,Cp]
   refine Ah.intro (by kernel_rfl) ?_
   intro ν fr;have nuE:=And.intro (fr.mem (b:=n3) (by simp)) (And.intro (fr.mem (b:=n2) (by simp)) (fr.nu))
   simp (maxDischargeDepth:=16) only[AX,↓AW,simprocAttr,forall_const,nuE,fr.2,CF,d32,m1,m2,m3,m4]
   refine AM.ownX (Y:=[(n3,_),(n2,_)]) (Hi rb lp lcap L A' j e' w' he _ _) (dis2 g3 g2) ?_
   rintro v D ⟨rfl,hD⟩ dD
   refine⟨_,hD, ?_⟩
   clear hD dD D nuE fr
   simp only[RS,Cp,List.cons_append,List.nil_append]
   intro ν fr;have nuE:=And.intro (fr.mem (b:=n3) (by simp)) (And.intro (fr.mem (b:=n2) (by simp)) (fr.nu))
   simp (maxDischargeDepth:=16) only[AX,↓AW,simprocAttr,forall_const,nuE,fr.2,CF,d32,m1,m2,m3,m4]
   exact⟨r,j,e',w',A',rfl,hj,hs,hp',SubA.fresh (AK d32.2 g3) (SubA.fresh g2 (SubA.refl _)),.inr ⟨he,jj,x,hq,hx,hw⟩⟩
  obtain⟨x,hx,hlx⟩:=Bw hj
  have htk:=CZ rb lp lcap L A' hp' j x hx 0 w' 4 ⟨#[42]⟩
  rw[Ky]at htk
  refine Ah.intro (by kernel_rfl) ?_
  simp only[RS,Cp]
  intro ν fr;have nuE:=And.intro (fr.mem (b:=n3) (by simp)) (And.intro (fr.mem (b:=n2) (by simp)) (fr.nu))
  simp (maxDischargeDepth:=16) only[AX,↓AW,simprocAttr,forall_const,nuE,fr.2,CF,d32,m1,m2,m3,m4]
  cases hmk:BX x 4 ⟨#[42]⟩with
  | true=>
   rw[hmk]at htk
   simp only[if_true]at htk
   refine AM.ownX (Y:=[(n3,_),(n2,_)]) htk (dis2 g3 g2) ?_
   rintro v D ⟨rfl,hD⟩ dD
   refine⟨_,hD, ?_⟩
   clear hD dD D nuE fr
   simp only[RS,Cp,List.cons_append,List.nil_append]
   intro ν fr;have nuE:=And.intro (fr.mem (b:=n3) (by simp)) (And.intro (fr.mem (b:=n2) (by simp)) (fr.nu))
   simp (maxDischargeDepth:=16) only[AX,↓AW,simprocAttr,forall_const,nuE,fr.2,CF,d32,m1,m2,m3,m4]
   have hn2:=DZ hp'.he hx (by rw[Bu hmk];decide)
   have ho:Hs 4 (BR L j)=some 14:=by rw[hlx,eg,hmk];rfl
   refine CO.plan [(0,0),(1,0),(2,0),(3,0),(4,2)] [(n3,.cells #[.int .i64 r.op,.string r.nm,.string r.tx,.int .i64 r.n,.slice r.p r.len r.cap] 36)] (SubA.left [_] _) (by kernel_rfl) (by kernel_rfl) (by kernel_rfl) (by kernel_rfl) (by kernel_rfl) (by kernel_rfl) ?_
   clear nuE fr
   intro ν fr;have nuE:=And.intro (fr.mem (b:=n3) (by simp)) (And.intro (fr.mem (b:=n2) (by simp)) (fr.nu))
   simp (maxDischargeDepth:=16) only[AX,↓AW,simprocAttr,forall_const,nuE,fr.2,CF,d32,m1,m2,m3,m4]
   refine AM.ownX (Y:=[(n3,_),(n2,_)]) (hun (j+1) A' w' (by omega) hn2 hp') (dis2 (A8 g3) (A8 g2)) ?_
   rintro v D ⟨r2,k,e2,w2,A2,rfl,hk,hs2,hp2,hD,hst2⟩ dD
   refine⟨_,hD, ?_⟩
   have g23:Vm.AA (RS rb lp lcap L k e2 w2 A2) n3=none:=hD.none (dD n3 (by simp[Vm.AA]))
   have g22:Vm.AA (RS rb lp lcap L k e2 w2 A2) n2=none:=hD.none (dD n2 (by simp[Vm.AA,d32]))
   clear hD dD D nuE fr
   simp only[RS,Cp,List.cons_append,List.nil_append,C5,Ck]
   intro ν fr;have nuE:=And.intro (fr.mem (b:=n3) (by simp)) (And.intro (fr.mem (b:=n2) (by simp)) (fr.nu))
   simp (maxDischargeDepth:=16) only[AX,↓AW,simprocAttr,forall_const,nuE,fr.2,CF,d32]
   clear nuE fr
   refine AM.newX (Fr ((n3,.cells #[.int .i64 r.op,.string r.nm,.string r.tx,.int .i64 r.n,.slice r.p r.len r.cap] 36)::(n2,.cells #[.int .i64 0,.string ⟨#[]⟩,.string ⟨#[]⟩,.int .i64 0,.slice none 0 0] 36)::RS rb lp lcap L k e2 w2 A2) 14 r r2) (SubA.refl _) ?_
   rintro v B ⟨p',c',rfl,hS'⟩ hdB
   have s0:SubA (RS rb lp lcap L k e2 w2 A2) ((n3,.cells #[.int .i64 r.op,.string r.nm,.string r.tx,.int .i64 r.n,.slice r.p r.len r.cap] 36)::(n2,.cells #[.int .i64 0,.string ⟨#[]⟩,.string ⟨#[]⟩,.int .i64 0,.slice none 0 0] 36)::RS rb lp lcap L k e2 w2 A2):=s32 _ _ g22 g23
   have hp3:=hp2.app hdB s0
   have n53:Vm.AA B n3=none:=hdB n3 (by simp[Vm.AA])
   have n52:Vm.AA B n2=none:=hdB n2 (by simp[Vm.AA,d32])
   have dBA:Dis B A2:=Dis.subr hdB (SubA.trans (CL hp2) s0)
   refine⟨(n3,.cells #[.int .i64 r.op,.string r.nm,.string r.tx,.int .i64 r.n,.slice r.p r.len r.cap] 36)::(n2,.cells #[.int .i64 0,.string ⟨#[]⟩,.string ⟨#[]⟩,.int .i64 0,.slice none 0 0] 36)::RS rb lp lcap L k e2 w2 (A2++B),SubA.both (X:=(n3,.cells #[.int .i64 r.op,.string r.nm,.string r.tx,.int .i64 r.n,.slice r.p r.len r.cap] 36)::(n2,.cells #[.int .i64 0,.string ⟨#[]⟩,.string ⟨#[]⟩,.int .i64 0,.slice none 0 0] 36)::RS rb lp lcap L k e2 w2 A2) hdB.right (SubA.left _ _), ?_⟩
   simp only[RS,Cp,C5,Ck]
   intro ν fr;have nuE:=And.intro (fr.mem (b:=n3) (by simp)) (And.intro (fr.mem (b:=n2) (by simp)) (fr.nu))
   simp (maxDischargeDepth:=16) only[AX,↓AW,simprocAttr,forall_const,nuE,fr.2,CF,d32]
   have hst':(e2=0∧w2=w'∧i≤k∧ ∃t,ExR (A2++B) t ⟨14,eB,eB,0,p',2,c'⟩∧ ∀z,Pr L (.lp 4 t) k z→Pr L (.lv 4) i z)∨(e2≠0∧ ∃jj x,Pr L (.lv 4) i (.er e2 jj)∧L[jj]? =some x∧w2=(x.a:Int)):=by
    rcases hst2 with⟨h1,h2,t2,h3,h4⟩|⟨h1,jj,x,h2,h3,h4⟩
    ·exact .inl ⟨h1,h2,by have:=h3.le;omega,Ee 14 t t2,((hr.mono hs2).mono (SubA.left _ _)).two (h4.mono (SubA.left _ _)) (hS'.mono dBA.symm.right),fun z hz=>hq z (.lpO ho h3 hz)⟩
    ·exact .inr ⟨h1,jj,x,hq _ (.lpE ho h2),h3,h4⟩
   have hlt:(if e2=0 then L.length - k+1 else 0)<m:=by
    rw[←hm,if_pos rfl]
    rcases hst2 with⟨h1,h2,t2,h3,h4⟩|⟨h1,_⟩
    ·rw[if_pos h1];have:=h3.le;omega
    ·rw[if_neg h1];omega
   exact Ah.weak (ih _ hlt ⟨14,eB,eB,0,p',2,c'⟩ k e2 w2 (A2++B) hk (SubA.trans (SubA.trans hs hs2) (SubA.left _ _)) hp3 (AJ (B:=RS rb lp lcap L k e2 w2 A2) g22 n52) (AJ (B:=RS rb lp lcap L k e2 w2 A2) g23 n53) hst' rfl) (by simp only[BW,Ab,Nat.reduceEqDiff,↓reduceIte,reduceCtorEq,Nat.reduceAdd,and_self,and_true]) (SubA.refl _)
  |false=>
   rw[hmk]at htk
   simp only[Bool.false_eq_true,if_false]at htk
   refine AM.ownX (Y:=[(n3,_),(n2,_)]) htk (dis2 g3 g2) ?_
   rintro v D ⟨rfl,hD⟩ dD
   refine⟨_,hD, ?_⟩
   clear hD dD D nuE fr
   simp only[RS,Cp,List.cons_append,List.nil_append]
   intro ν fr;have nuE:=And.intro (fr.mem (b:=n3) (by simp)) (And.intro (fr.mem (b:=n2) (by simp)) (fr.nu))
   simp (maxDischargeDepth:=16) only[AX,↓AW,simprocAttr,forall_const,nuE,fr.2,CF,d32,m1,m2,m3,m4]
   have ho:Hs 4 (BR L j)=none:=by rw[hlx,eg,hmk];rfl
   exact⟨r,j,0,w',A',rfl,hj,hs,hp',SubA.fresh (AK d32.2 g3) (SubA.fresh g2 (SubA.refl _)),.inl ⟨rfl,rfl,t,hq _ (.lpN ho),hr⟩⟩
theorem fe(rb:Nat)(lp:Option Addr)(lcap:Nat)(L:List LR)(A:AH)(hp:RsOk rb lp L A)(i:Nat)(hi:i<L.length)(w:Int)(hun: ∀k A' w,i≤k→k<L.length→RsOk rb lp L A'→LF 136 2 rb lp lcap L A' k w):AM Tryz.prog 112 #[.pointer (some ⟨rb,0,none⟩)] (RS rb lp lcap L i 0 w A) (fun u_ A_=>mT rb lp lcap L A w (Pr L (.lv 1) i) u_ A_):=by
 refine AR ⟨Tryz.prog,112,Tryz.f112,13,[0,2,3],⟨[136,113,114],none⟩,[],_⟩ rfl (args:=[_]) Tryz.func112 rfl (by kernel_rfl) Tryz.ntmps112 (by simp) (by kernel_rfl) ?_
 intro ν fr;have nuE:=fr.nu
 have f0:=fr.2 0
 simp (maxDischargeDepth:=16) only[AX,↓AW,simprocAttr,forall_const,nuE,fr.2,CF]
 have dst_:True:=(by simp[nuE]);generalize ν 0=n2 at dst_  f0⊢
 clear nuE fr dst_
 refine AM.ownX (Y:=[(n2,_)]) (hun i A w (Nat.le_refl _) hi hp) (Dis.one f0).symm ?_
 rintro v D ⟨r,j,e',w',A',rfl,hj,hs,hp',hD,hst0⟩ dD
 refine⟨_,hD, ?_⟩
 have g2:Vm.AA (RS rb lp lcap L j e' w' A') n2=none:=hD.none (dD n2 (by simp[Vm.AA]))
 clear hD dD D
 simp only[List.cons_append,List.nil_append,C5,Ck]
 intro ν fr;have nuE:=And.intro (fr.mem (b:=n2) (by simp)) (fr.nu)
 have f3:Vm.AA ((n2,_)::RS rb lp lcap L j e' w' A') (ν 0)=none:=fr.2 0
 simp (maxDischargeDepth:=16) only[AX,↓AW,simprocAttr,forall_const,nuE,fr.2,CF]
 have dst_:((ν 0=n2)=False)∧((n2=ν 0)=False):=(by simp[nuE]);generalize ν 0=n3 at dst_  f3⊢
 clear nuE fr
 have e32:n3≠n2:=fun h=>by rw[h]at f3;simp[Vm.AA]at f3
 have g3:Vm.AA (RS rb lp lcap L j e' w' A') n3=none:=by simpa only[Vm.AA,dst_,if_false]using f3
 have d32:=dst_
 clear f3 f0 dst_
 have hst:(e'=0∧w'=w∧i≤j∧ ∃t,ExR A' t r∧ ∀z,Pr L (.lp 1 t) j z→Pr L (.lv 1) i z)∨(e'≠0∧ ∃jj x,Pr L (.lv 1) i (.er e' jj)∧L[jj]? =some x∧w'=(x.a:Int)):=by
  rcases hst0 with⟨h1,h2,t,h3,h4⟩|⟨h1,jj,x,h2,h3,h4⟩
  ·exact .inl ⟨h1,h2,h3.le,t,h4,fun z hz=>.opO (by decide) (by decide) h3 hz⟩
  ·exact .inr ⟨h1,jj,x,.opE (by decide) (by decide) h2,h3,h4⟩
 clear hst0
 generalize hm:(if e'=0 then L.length - j+1 else 0)=m
 induction m using Nat.strongRecOn generalizing r j e' w' A' with
 | ind m ih=>
  obtain⟨m1,m2⟩:=DB g2
  obtain⟨m3,m4⟩:=DB g3
  have s32: ∀{j:Nat} {e w:Int} {A':AH} (o o':Obj),Vm.AA (RS rb lp lcap L j e w A') n2=none→Vm.AA (RS rb lp lcap L j e w A') n3=none→SubA (RS rb lp lcap L j e w A') ((n3,o)::(n2,o')::RS rb lp lcap L j e w A'):=fun o o' h2 h3=>SubA.fresh (AK d32.2 h3) (SubA.fresh h2 (SubA.refl _))
  rcases hst with⟨rfl,rfl,hij,t,hr,hq⟩|⟨he,jj,x,hq,hx,hw⟩
  rotate_left
  ·simp only[RS,Cp]
   refine Ah.intro (by kernel_rfl) ?_
   intro ν fr;have nuE:=And.intro (fr.mem (b:=n3) (by simp)) (And.intro (fr.mem (b:=n2) (by simp)) (fr.nu))
   simp (maxDischargeDepth:=16) only[AX,↓AW,simprocAttr,forall_const,nuE,fr.2,CF,d32,m1,m2,m3,m4]
   refine AM.ownX (Y:=[(n3,_),(n2,_)]) (Hi rb lp lcap L A' j e' w' he _ _) (dis2 g3 g2) ?_
   rintro v D ⟨rfl,hD⟩ dD
   refine⟨_,hD, ?_⟩
   clear hD dD D nuE fr
   simp only[RS,Cp,List.cons_append,List.nil_append]
   intro ν fr;have nuE:=And.intro (fr.mem (b:=n3) (by simp)) (And.intro (fr.mem (b:=n2) (by simp)) (fr.nu))
   simp (maxDischargeDepth:=16) only[AX,↓AW,simprocAttr,forall_const,nuE,fr.2,CF,d32,m1,m2,m3,m4]
   exact⟨r,j,e',w',A',rfl,hj,hs,hp',SubA.fresh (AK d32.2 g3) (SubA.fresh g2 (SubA.refl _)),.inr ⟨he,jj,x,hq,hx,hw⟩⟩
  obtain⟨x,hx,hlx⟩:=Bw hj
  have htk:=CZ rb lp lcap L A' hp' j x hx 0 w' 1 ⟨#[97,110,100]⟩
  rw[Ky]at htk
  refine Ah.intro (by kernel_rfl) ?_
  simp only[RS,Cp]
  intro ν fr;have nuE:=And.intro (fr.mem (b:=n3) (by simp)) (And.intro (fr.mem (b:=n2) (by simp)) (fr.nu))
  simp (maxDischargeDepth:=16) only[AX,↓AW,simprocAttr,forall_const,nuE,fr.2,CF,d32,m1,m2,m3,m4]
  cases hmk:BX x 1 ⟨#[97,110,100]⟩with
  | true=>
   rw[hmk]at htk
   simp only[if_true]at htk
   refine AM.ownX (Y:=[(n3,_),(n2,_)]) htk (dis2 g3 g2) ?_
   rintro v D ⟨rfl,hD⟩ dD
   refine⟨_,hD, ?_⟩
   clear hD dD D nuE fr
   simp only[RS,Cp,List.cons_append,List.nil_append]
   intro ν fr;have nuE:=And.intro (fr.mem (b:=n3) (by simp)) (And.intro (fr.mem (b:=n2) (by simp)) (fr.nu))
   simp (maxDischargeDepth:=16) only[AX,↓AW,simprocAttr,forall_const,nuE,fr.2,CF,d32,m1,m2,m3,m4]
   have hn2:=DZ hp'.he hx (by rw[Bu hmk];decide)
   have ho:Hs 1 (BR L j)=some 6:=by rw[hlx,eh,hmk];rfl
   refine CO.plan [(0,0),(1,0),(2,0),(3,0),(4,2)] [(n3,.cells #[.int .i64 r.op,.string r.nm,.string r.tx,.int .i64 r.n,.slice r.p r.len r.cap] 36)] (SubA.left [_] _) (by kernel_rfl) (by kernel_rfl) (by kernel_rfl) (by kernel_rfl) (by kernel_rfl) (by kernel_rfl) ?_
   clear nuE fr
   intro ν fr;have nuE:=And.intro (fr.mem (b:=n3) (by simp)) (And.intro (fr.mem (b:=n2) (by simp)) (fr.nu))
   simp (maxDischargeDepth:=16) only[AX,↓AW,simprocAttr,forall_const,nuE,fr.2,CF,d32,m1,m2,m3,m4]
   refine AM.ownX (Y:=[(n3,_),(n2,_)]) (hun (j+1) A' w' (by omega) hn2 hp') (dis2 (A8 g3) (A8 g2)) ?_
   rintro v D ⟨r2,k,e2,w2,A2,rfl,hk,hs2,hp2,hD,hst2⟩ dD
   refine⟨_,hD, ?_⟩
   have g23:Vm.AA (RS rb lp lcap L k e2 w2 A2) n3=none:=hD.none (dD n3 (by simp[Vm.AA]))
   have g22:Vm.AA (RS rb lp lcap L k e2 w2 A2) n2=none:=hD.none (dD n2 (by simp[Vm.AA,d32]))
   clear hD dD D nuE fr
   simp only[RS,Cp,List.cons_append,List.nil_append,C5,Ck]
   intro ν fr;have nuE:=And.intro (fr.mem (b:=n3) (by simp)) (And.intro (fr.mem (b:=n2) (by simp)) (fr.nu))
   simp (maxDischargeDepth:=16) only[AX,↓AW,simprocAttr,forall_const,nuE,fr.2,CF,d32]
   clear nuE fr
   refine AM.newX (Fr ((n3,.cells #[.int .i64 r.op,.string r.nm,.string r.tx,.int .i64 r.n,.slice r.p r.len r.cap] 36)::(n2,.cells #[.int .i64 0,.string ⟨#[]⟩,.string ⟨#[]⟩,.int .i64 0,.slice none 0 0] 36)::RS rb lp lcap L k e2 w2 A2) 6 r r2) (SubA.refl _) ?_
   rintro v B ⟨p',c',rfl,hS'⟩ hdB
   have s0:SubA (RS rb lp lcap L k e2 w2 A2) ((n3,.cells #[.int .i64 r.op,.string r.nm,.string r.tx,.int .i64 r.n,.slice r.p r.len r.cap] 36)::(n2,.cells #[.int .i64 0,.string ⟨#[]⟩,.string ⟨#[]⟩,.int .i64 0,.slice none 0 0] 36)::RS rb lp lcap L k e2 w2 A2):=s32 _ _ g22 g23
   have hp3:=hp2.app hdB s0
   have n53:Vm.AA B n3=none:=hdB n3 (by simp[Vm.AA])
   have n52:Vm.AA B n2=none:=hdB n2 (by simp[Vm.AA,d32])
   have dBA:Dis B A2:=Dis.subr hdB (SubA.trans (CL hp2) s0)
   refine⟨(n3,.cells #[.int .i64 r.op,.string r.nm,.string r.tx,.int .i64 r.n,.slice r.p r.len r.cap] 36)::(n2,.cells #[.int .i64 0,.string ⟨#[]⟩,.string ⟨#[]⟩,.int .i64 0,.slice none 0 0] 36)::RS rb lp lcap L k e2 w2 (A2++B),SubA.both (X:=(n3,.cells #[.int .i64 r.op,.string r.nm,.string r.tx,.int .i64 r.n,.slice r.p r.len r.cap] 36)::(n2,.cells #[.int .i64 0,.string ⟨#[]⟩,.string ⟨#[]⟩,.int .i64 0,.slice none 0 0] 36)::RS rb lp lcap L k e2 w2 A2) hdB.right (SubA.left _ _), ?_⟩
   simp only[RS,Cp,C5,Ck]
   intro ν fr;have nuE:=And.intro (fr.mem (b:=n3) (by simp)) (And.intro (fr.mem (b:=n2) (by simp)) (fr.nu))
   simp (maxDischargeDepth:=16) only[AX,↓AW,simprocAttr,forall_const,nuE,fr.2,CF,d32]
   have hst':(e2=0∧w2=w'∧i≤k∧ ∃t,ExR (A2++B) t ⟨6,eB,eB,0,p',2,c'⟩∧ ∀z,Pr L (.lp 1 t) k z→Pr L (.lv 1) i z)∨(e2≠0∧ ∃jj x,Pr L (.lv 1) i (.er e2 jj)∧L[jj]? =some x∧w2=(x.a:Int)):=by
    rcases hst2 with⟨h1,h2,t2,h3,h4⟩|⟨h1,jj,x,h2,h3,h4⟩
    ·exact .inl ⟨h1,h2,by have:=h3.le;omega,Ee 6 t t2,((hr.mono hs2).mono (SubA.left _ _)).two (h4.mono (SubA.left _ _)) (hS'.mono dBA.symm.right),fun z hz=>hq z (.lpO ho h3 hz)⟩
    ·exact .inr ⟨h1,jj,x,hq _ (.lpE ho h2),h3,h4⟩
   have hlt:(if e2=0 then L.length - k+1 else 0)<m:=by
    rw[←hm,if_pos rfl]
    rcases hst2 with⟨h1,h2,t2,h3,h4⟩|⟨h1,_⟩
    ·rw[if_pos h1];have:=h3.le;omega
    ·rw[if_neg h1];omega
   exact Ah.weak (ih _ hlt ⟨6,eB,eB,0,p',2,c'⟩ k e2 w2 (A2++B) hk (SubA.trans (SubA.trans hs hs2) (SubA.left _ _)) hp3 (AJ (B:=RS rb lp lcap L k e2 w2 A2) g22 n52) (AJ (B:=RS rb lp lcap L k e2 w2 A2) g23 n53) hst' rfl) (by simp only[BW,Ab,Nat.reduceEqDiff,↓reduceIte,reduceCtorEq,Nat.reduceAdd,and_self,and_true]) (SubA.refl _)
  |false=>
   rw[hmk]at htk
   simp only[Bool.false_eq_true,if_false]at htk
   refine AM.ownX (Y:=[(n3,_),(n2,_)]) htk (dis2 g3 g2) ?_
   rintro v D ⟨rfl,hD⟩ dD
   refine⟨_,hD, ?_⟩
   clear hD dD D nuE fr
   simp only[RS,Cp,List.cons_append,List.nil_append]
   intro ν fr;have nuE:=And.intro (fr.mem (b:=n3) (by simp)) (And.intro (fr.mem (b:=n2) (by simp)) (fr.nu))
   simp (maxDischargeDepth:=16) only[AX,↓AW,simprocAttr,forall_const,nuE,fr.2,CF,d32,m1,m2,m3,m4]
   have ho:Hs 1 (BR L j)=none:=by rw[hlx,eh,hmk];rfl
   exact⟨r,j,0,w',A',rfl,hj,hs,hp',SubA.fresh (AK d32.2 g3) (SubA.fresh g2 (SubA.refl _)),.inl ⟨rfl,rfl,t,hq _ (.lpN ho),hr⟩⟩
theorem ed(rb:Nat)(lp:Option Addr)(lcap:Nat)(L:List LR)(A:AH)(hp:RsOk rb lp L A)(i:Nat)(hi:i<L.length)(w:Int)(hun: ∀k A' w,i≤k→k<L.length→RsOk rb lp L A'→LF 112 1 rb lp lcap L A' k w):AM Tryz.prog 91 #[.pointer (some ⟨rb,0,none⟩)] (RS rb lp lcap L i 0 w A) (fun u_ A_=>mT rb lp lcap L A w (Pr L (.lv 0) i) u_ A_):=by
 refine AR ⟨Tryz.prog,91,Tryz.f91,13,[0,2,3],⟨[112,113,114],none⟩,[],_⟩ rfl (args:=[_]) Tryz.func91 rfl (by kernel_rfl) Tryz.ntmps91 (by simp) (by kernel_rfl) ?_
 intro ν fr;have nuE:=fr.nu
 have f0:=fr.2 0
 simp (maxDischargeDepth:=16) only[AX,↓AW,simprocAttr,forall_const,nuE,fr.2,CF]
 have dst_:True:=(by simp[nuE]);generalize ν 0=n2 at dst_  f0⊢
 clear nuE fr dst_
 refine AM.ownX (Y:=[(n2,_)]) (hun i A w (Nat.le_refl _) hi hp) (Dis.one f0).symm ?_
 rintro v D ⟨r,j,e',w',A',rfl,hj,hs,hp',hD,hst0⟩ dD
 refine⟨_,hD, ?_⟩
 have g2:Vm.AA (RS rb lp lcap L j e' w' A') n2=none:=hD.none (dD n2 (by simp[Vm.AA]))
 clear hD dD D
 simp only[List.cons_append,List.nil_append,C5,Ck]
 intro ν fr;have nuE:=And.intro (fr.mem (b:=n2) (by simp)) (fr.nu)
 have f3:Vm.AA ((n2,_)::RS rb lp lcap L j e' w' A') (ν 0)=none:=fr.2 0
 simp (maxDischargeDepth:=16) only[AX,↓AW,simprocAttr,forall_const,nuE,fr.2,CF]
 have dst_:((ν 0=n2)=False)∧((n2=ν 0)=False):=(by simp[nuE]);generalize ν 0=n3 at dst_  f3⊢
 clear nuE fr
 have e32:n3≠n2:=fun h=>by rw[h]at f3;simp[Vm.AA]at f3
 have g3:Vm.AA (RS rb lp lcap L j e' w' A') n3=none:=by simpa only[Vm.AA,dst_,if_false]using f3
 have d32:=dst_
 clear f3 f0 dst_
 have hst:(e'=0∧w'=w∧i≤j∧ ∃t,ExR A' t r∧ ∀z,Pr L (.lp 0 t) j z→Pr L (.lv 0) i z)∨(e'≠0∧ ∃jj x,Pr L (.lv 0) i (.er e' jj)∧L[jj]? =some x∧w'=(x.a:Int)):=by
  rcases hst0 with⟨h1,h2,t,h3,h4⟩|⟨h1,jj,x,h2,h3,h4⟩
  ·exact .inl ⟨h1,h2,h3.le,t,h4,fun z hz=>.opO (by decide) (by decide) h3 hz⟩
  ·exact .inr ⟨h1,jj,x,.opE (by decide) (by decide) h2,h3,h4⟩
 clear hst0
 generalize hm:(if e'=0 then L.length - j+1 else 0)=m
 induction m using Nat.strongRecOn generalizing r j e' w' A' with
 | ind m ih=>
  obtain⟨m1,m2⟩:=DB g2
  obtain⟨m3,m4⟩:=DB g3
  have s32: ∀{j:Nat} {e w:Int} {A':AH} (o o':Obj),Vm.AA (RS rb lp lcap L j e w A') n2=none→Vm.AA (RS rb lp lcap L j e w A') n3=none→SubA (RS rb lp lcap L j e w A') ((n3,o)::(n2,o')::RS rb lp lcap L j e w A'):=fun o o' h2 h3=>SubA.fresh (AK d32.2 h3) (SubA.fresh h2 (SubA.refl _))
  rcases hst with⟨rfl,rfl,hij,t,hr,hq⟩|⟨he,jj,x,hq,hx,hw⟩
  rotate_left
  ·simp only[RS,Cp]
   refine Ah.intro (by kernel_rfl) ?_
   intro ν fr;have nuE:=And.intro (fr.mem (b:=n3) (by simp)) (And.intro (fr.mem (b:=n2) (by simp)) (fr.nu))
   simp (maxDischargeDepth:=16) only[AX,↓AW,simprocAttr,forall_const,nuE,fr.2,CF,d32,m1,m2,m3,m4]
   refine AM.ownX (Y:=[(n3,_),(n2,_)]) (Hi rb lp lcap L A' j e' w' he _ _) (dis2 g3 g2) ?_
   rintro v D ⟨rfl,hD⟩ dD
   refine⟨_,hD, ?_⟩
   clear hD dD D nuE fr
   simp only[RS,Cp,List.cons_append,List.nil_append]
   intro ν fr;have nuE:=And.intro (fr.mem (b:=n3) (by simp)) (And.intro (fr.mem (b:=n2) (by simp)) (fr.nu))
   simp (maxDischargeDepth:=16) only[AX,↓AW,simprocAttr,forall_const,nuE,fr.2,CF,d32,m1,m2,m3,m4]
   exact⟨r,j,e',w',A',rfl,hj,hs,hp',SubA.fresh (AK d32.2 g3) (SubA.fresh g2 (SubA.refl _)),.inr ⟨he,jj,x,hq,hx,hw⟩⟩
  obtain⟨x,hx,hlx⟩:=Bw hj
  have htk:=CZ rb lp lcap L A' hp' j x hx 0 w' 1 ⟨#[111,114]⟩
  rw[Ky]at htk
  refine Ah.intro (by kernel_rfl) ?_
  simp only[RS,Cp]
  intro ν fr;have nuE:=And.intro (fr.mem (b:=n3) (by simp)) (And.intro (fr.mem (b:=n2) (by simp)) (fr.nu))
  simp (maxDischargeDepth:=16) only[AX,↓AW,simprocAttr,forall_const,nuE,fr.2,CF,d32,m1,m2,m3,m4]
  cases hmk:BX x 1 ⟨#[111,114]⟩with
  | true=>
   rw[hmk]at htk
   simp only[if_true]at htk
   refine AM.ownX (Y:=[(n3,_),(n2,_)]) htk (dis2 g3 g2) ?_
   rintro v D ⟨rfl,hD⟩ dD
   refine⟨_,hD, ?_⟩
   clear hD dD D nuE fr
   simp only[RS,Cp,List.cons_append,List.nil_append]
   intro ν fr;have nuE:=And.intro (fr.mem (b:=n3) (by simp)) (And.intro (fr.mem (b:=n2) (by simp)) (fr.nu))
   simp (maxDischargeDepth:=16) only[AX,↓AW,simprocAttr,forall_const,nuE,fr.2,CF,d32,m1,m2,m3,m4]
   have hn2:=DZ hp'.he hx (by rw[Bu hmk];decide)
   have ho:Hs 0 (BR L j)=some 7:=by rw[hlx,fm,hmk];rfl
   refine CO.plan [(0,0),(1,0),(2,0),(3,0),(4,2)] [(n3,.cells #[.int .i64 r.op,.string r.nm,.string r.tx,.int .i64 r.n,.slice r.p r.len r.cap] 36)] (SubA.left [_] _) (by kernel_rfl) (by kernel_rfl) (by kernel_rfl) (by kernel_rfl) (by kernel_rfl) (by kernel_rfl) ?_
   clear nuE fr
   intro ν fr;have nuE:=And.intro (fr.mem (b:=n3) (by simp)) (And.intro (fr.mem (b:=n2) (by simp)) (fr.nu))
   simp (maxDischargeDepth:=16) only[AX,↓AW,simprocAttr,forall_const,nuE,fr.2,CF,d32,m1,m2,m3,m4]
   refine AM.ownX (Y:=[(n3,_),(n2,_)]) (hun (j+1) A' w' (by omega) hn2 hp') (dis2 (A8 g3) (A8 g2)) ?_
   rintro v D ⟨r2,k,e2,w2,A2,rfl,hk,hs2,hp2,hD,hst2⟩ dD
   refine⟨_,hD, ?_⟩
   have g23:Vm.AA (RS rb lp lcap L k e2 w2 A2) n3=none:=hD.none (dD n3 (by simp[Vm.AA]))
   have g22:Vm.AA (RS rb lp lcap L k e2 w2 A2) n2=none:=hD.none (dD n2 (by simp[Vm.AA,d32]))
   clear hD dD D nuE fr
   simp only[RS,Cp,List.cons_append,List.nil_append,C5,Ck]
   intro ν fr;have nuE:=And.intro (fr.mem (b:=n3) (by simp)) (And.intro (fr.mem (b:=n2) (by simp)) (fr.nu))
   simp (maxDischargeDepth:=16) only[AX,↓AW,simprocAttr,forall_const,nuE,fr.2,CF,d32]
   clear nuE fr
   refine AM.newX (Fr ((n3,.cells #[.int .i64 r.op,.string r.nm,.string r.tx,.int .i64 r.n,.slice r.p r.len r.cap] 36)::(n2,.cells #[.int .i64 0,.string ⟨#[]⟩,.string ⟨#[]⟩,.int .i64 0,.slice none 0 0] 36)::RS rb lp lcap L k e2 w2 A2) 7 r r2) (SubA.refl _) ?_
   rintro v B ⟨p',c',rfl,hS'⟩ hdB
   have s0:SubA (RS rb lp lcap L k e2 w2 A2) ((n3,.cells #[.int .i64 r.op,.string r.nm,.string r.tx,.int .i64 r.n,.slice r.p r.len r.cap] 36)::(n2,.cells #[.int .i64 0,.string ⟨#[]⟩,.string ⟨#[]⟩,.int .i64 0,.slice none 0 0] 36)::RS rb lp lcap L k e2 w2 A2):=s32 _ _ g22 g23
   have hp3:=hp2.app hdB s0
   have n53:Vm.AA B n3=none:=hdB n3 (by simp[Vm.AA])
   have n52:Vm.AA B n2=none:=hdB n2 (by simp[Vm.AA,d32])
   have dBA:Dis B A2:=Dis.subr hdB (SubA.trans (CL hp2) s0)
   refine⟨(n3,.cells #[.int .i64 r.op,.string r.nm,.string r.tx,.int .i64 r.n,.slice r.p r.len r.cap] 36)::(n2,.cells #[.int .i64 0,.string ⟨#[]⟩,.string ⟨#[]⟩,.int .i64 0,.slice none 0 0] 36)::RS rb lp lcap L k e2 w2 (A2++B),SubA.both (X:=(n3,.cells #[.int .i64 r.op,.string r.nm,.string r.tx,.int .i64 r.n,.slice r.p r.len r.cap] 36)::(n2,.cells #[.int .i64 0,.string ⟨#[]⟩,.string ⟨#[]⟩,.int .i64 0,.slice none 0 0] 36)::RS rb lp lcap L k e2 w2 A2) hdB.right (SubA.left _ _), ?_⟩
   simp only[RS,Cp,C5,Ck]
   intro ν fr;have nuE:=And.intro (fr.mem (b:=n3) (by simp)) (And.intro (fr.mem (b:=n2) (by simp)) (fr.nu))
   simp (maxDischargeDepth:=16) only[AX,↓AW,simprocAttr,forall_const,nuE,fr.2,CF,d32]
   have hst':(e2=0∧w2=w'∧i≤k∧ ∃t,ExR (A2++B) t ⟨7,eB,eB,0,p',2,c'⟩∧ ∀z,Pr L (.lp 0 t) k z→Pr L (.lv 0) i z)∨(e2≠0∧ ∃jj x,Pr L (.lv 0) i (.er e2 jj)∧L[jj]? =some x∧w2=(x.a:Int)):=by
    rcases hst2 with⟨h1,h2,t2,h3,h4⟩|⟨h1,jj,x,h2,h3,h4⟩
    ·exact .inl ⟨h1,h2,by have:=h3.le;omega,Ee 7 t t2,((hr.mono hs2).mono (SubA.left _ _)).two (h4.mono (SubA.left _ _)) (hS'.mono dBA.symm.right),fun z hz=>hq z (.lpO ho h3 hz)⟩
    ·exact .inr ⟨h1,jj,x,hq _ (.lpE ho h2),h3,h4⟩
   have hlt:(if e2=0 then L.length - k+1 else 0)<m:=by
    rw[←hm,if_pos rfl]
    rcases hst2 with⟨h1,h2,t2,h3,h4⟩|⟨h1,_⟩
    ·rw[if_pos h1];have:=h3.le;omega
    ·rw[if_neg h1];omega
   exact Ah.weak (ih _ hlt ⟨7,eB,eB,0,p',2,c'⟩ k e2 w2 (A2++B) hk (SubA.trans (SubA.trans hs hs2) (SubA.left _ _)) hp3 (AJ (B:=RS rb lp lcap L k e2 w2 A2) g22 n52) (AJ (B:=RS rb lp lcap L k e2 w2 A2) g23 n53) hst' rfl) (by simp only[BW,Ab,Nat.reduceEqDiff,↓reduceIte,reduceCtorEq,Nat.reduceAdd,and_self,and_true]) (SubA.refl _)
  |false=>
   rw[hmk]at htk
   simp only[Bool.false_eq_true,if_false]at htk
   refine AM.ownX (Y:=[(n3,_),(n2,_)]) htk (dis2 g3 g2) ?_
   rintro v D ⟨rfl,hD⟩ dD
   refine⟨_,hD, ?_⟩
   clear hD dD D nuE fr
   simp only[RS,Cp,List.cons_append,List.nil_append]
   intro ν fr;have nuE:=And.intro (fr.mem (b:=n3) (by simp)) (And.intro (fr.mem (b:=n2) (by simp)) (fr.nu))
   simp (maxDischargeDepth:=16) only[AX,↓AW,simprocAttr,forall_const,nuE,fr.2,CF,d32,m1,m2,m3,m4]
   have ho:Hs 0 (BR L j)=none:=by rw[hlx,fm,hmk];rfl
   exact⟨r,j,0,w',A',rfl,hj,hs,hp',SubA.fresh (AK d32.2 g3) (SubA.fresh g2 (SubA.refl _)),.inl ⟨rfl,rfl,t,hq _ (.lpN ho),hr⟩⟩
end Go.Proofs.YtfphceknmgadgaaGreatDoor
namespace Go.Proofs.YtfphceknmgadgaaGreatDoor
open Go.Vm
set_option maxHeartbeats 4000000
set_option maxRecDepth 20000
theorem mg(rb:Nat)(lp:Option Addr)(lcap:Nat)(L:List LR)(A:AH)(hp:RsOk rb lp L A)(i:Nat)(hi:i<L.length)(w:Int)(hun: ∀k A' w,i≤k→k<L.length→RsOk rb lp L A'→LF 160 4 rb lp lcap L A' k w):AM Tryz.prog 151 #[.pointer (some ⟨rb,0,none⟩)] (RS rb lp lcap L i 0 w A) (fun u_ A_=>mT rb lp lcap L A w (Pr L (.lv 3) i) u_ A_):=by
 refine AR ⟨Tryz.prog,151,Tryz.f151,27,[0,2,3],⟨[160,113,114],none⟩,[],_⟩ rfl (args:=[_]) Tryz.func151 rfl (by kernel_rfl) Tryz.ntmps151 (by simp) (by kernel_rfl) ?_
 intro ν fr;have nuE:=fr.nu
 have f0:=fr.2 0
 simp (maxDischargeDepth:=16) only[AX,↓AW,simprocAttr,forall_const,nuE,fr.2,CF]
 have dst_:True:=(by simp[nuE]);generalize ν 0=n2 at dst_  f0⊢
 clear nuE fr dst_
 refine AM.ownX (Y:=[(n2,_)]) (hun i A w (Nat.le_refl _) hi hp) (Dis.one f0).symm ?_
 rintro v D ⟨r,j,e',w',A',rfl,hj,hs,hp',hD,hst0⟩ dD
 refine⟨_,hD, ?_⟩
 have g2:Vm.AA (RS rb lp lcap L j e' w' A') n2=none:=hD.none (dD n2 (by simp[Vm.AA]))
 clear hD dD D
 simp only[List.cons_append,List.nil_append,C5,Ck]
 intro ν fr;have nuE:=And.intro (fr.mem (b:=n2) (by simp)) (fr.nu)
 have f3:Vm.AA ((n2,_)::RS rb lp lcap L j e' w' A') (ν 0)=none:=fr.2 0
 simp (maxDischargeDepth:=16) only[AX,↓AW,simprocAttr,forall_const,nuE,fr.2,CF]
 have dst_:((ν 0=n2)=False)∧((n2=ν 0)=False):=(by simp[nuE]);generalize ν 0=n3 at dst_  f3⊢
 clear nuE fr
 have e32:n3≠n2:=fun h=>by rw[h]at f3;simp[Vm.AA]at f3
 have g3:Vm.AA (RS rb lp lcap L j e' w' A') n3=none:=by simpa only[Vm.AA,dst_,if_false]using f3
 have d32:=dst_
 clear f3 f0 dst_
 have hst:(e'=0∧w'=w∧i≤j∧ ∃t,ExR A' t r∧ ∀z,Pr L (.lp 3 t) j z→Pr L (.lv 3) i z)∨(e'≠0∧ ∃jj x,Pr L (.lv 3) i (.er e' jj)∧L[jj]? =some x∧w'=(x.a:Int)):=by
  rcases hst0 with⟨h1,h2,t,h3,h4⟩|⟨h1,jj,x,h2,h3,h4⟩
  ·exact .inl ⟨h1,h2,h3.le,t,h4,fun z hz=>.opO (by decide) (by decide) h3 hz⟩
  ·exact .inr ⟨h1,jj,x,.opE (by decide) (by decide) h2,h3,h4⟩
 clear hst0
 generalize hm:(if e'=0 then L.length - j+1 else 0)=m
 induction m using Nat.strongRecOn generalizing r j e' w' A' with
 | ind m ih=>
  obtain⟨m1,m2⟩:=DB g2
  obtain⟨m3,m4⟩:=DB g3
  have s32: ∀{j:Nat} {e w:Int} {A':AH} (o o':Obj),Vm.AA (RS rb lp lcap L j e w A') n2=none→Vm.AA (RS rb lp lcap L j e w A') n3=none→SubA (RS rb lp lcap L j e w A') ((n3,o)::(n2,o')::RS rb lp lcap L j e w A'):=fun o o' h2 h3=>SubA.fresh (AK d32.2 h3) (SubA.fresh h2 (SubA.refl _))
  rcases hst with⟨rfl,rfl,hij,t,hr,hq⟩|⟨he,jj,x,hq,hx,hw⟩
  rotate_left
  ·simp only[RS,Cp]
   refine Ah.intro (by kernel_rfl) ?_
   intro ν fr;have nuE:=And.intro (fr.mem (b:=n3) (by simp)) (And.intro (fr.mem (b:=n2) (by simp)) (fr.nu))
   simp (maxDischargeDepth:=16) only[AX,↓AW,simprocAttr,forall_const,nuE,fr.2,CF,d32,m1,m2,m3,m4,eq_false he]
   exact⟨r,j,e',w',A',rfl,hj,hs,hp',SubA.fresh (AK d32.2 g3) (SubA.fresh g2 (SubA.refl _)),.inr ⟨he,jj,x,hq,hx,hw⟩⟩
  obtain⟨x,hx,hlx⟩:=Bw hj
  have htk:=CZ rb lp lcap L A' hp' j x hx 0 w' 4 ⟨#[43]⟩
  rw[Ky]at htk
  have htl:=CZ rb lp lcap L A' hp' j x hx 0 w' 4 ⟨#[45]⟩
  rw[Ky]at htl
  refine Ah.intro (by kernel_rfl) ?_
  simp only[RS,Cp]
  intro ν fr;have nuE:=And.intro (fr.mem (b:=n3) (by simp)) (And.intro (fr.mem (b:=n2) (by simp)) (fr.nu))
  simp (maxDischargeDepth:=16) only[AX,↓AW,simprocAttr,forall_const,nuE,fr.2,CF,d32,m1,m2,m3,m4]
  cases hmk:BX x 4 ⟨#[43]⟩with
  | true=>
   rw[hmk]at htk
   simp only[if_true]at htk
   refine AM.ownX (Y:=[(n3,_),(n2,_)]) htk (dis2 g3 g2) ?_
   rintro v D ⟨rfl,hD⟩ dD
   refine⟨_,hD, ?_⟩
   clear hD dD D nuE fr
   simp only[RS,Cp,List.cons_append,List.nil_append]
   intro ν fr;have nuE:=And.intro (fr.mem (b:=n3) (by simp)) (And.intro (fr.mem (b:=n2) (by simp)) (fr.nu))
   simp (maxDischargeDepth:=16) only[AX,↓AW,simprocAttr,forall_const,nuE,fr.2,CF,d32,m1,m2,m3,m4]
   have hn2:=DZ hp'.he hx (by rw[Bu hmk];decide)
   have ho:Hs 3 (BR L j)=some 12:=by rw[hlx,XV,hmk];rfl
   refine CO.plan [(0,0),(1,0),(2,0),(3,0),(4,2)] [(n3,.cells #[.int .i64 r.op,.string r.nm,.string r.tx,.int .i64 r.n,.slice r.p r.len r.cap] 36)] (SubA.left [_] _) (by kernel_rfl) (by kernel_rfl) (by kernel_rfl) (by kernel_rfl) (by kernel_rfl) (by kernel_rfl) ?_
   clear nuE fr
   intro ν fr;have nuE:=And.intro (fr.mem (b:=n3) (by simp)) (And.intro (fr.mem (b:=n2) (by simp)) (fr.nu))
   simp (maxDischargeDepth:=16) only[AX,↓AW,simprocAttr,forall_const,nuE,fr.2,CF,d32,m1,m2,m3,m4]
   refine AM.ownX (Y:=[(n3,_),(n2,_)]) (hun (j+1) A' w' (by omega) hn2 hp') (dis2 (A8 g3) (A8 g2)) ?_
   rintro v D ⟨r2,k,e2,w2,A2,rfl,hk,hs2,hp2,hD,hst2⟩ dD
   refine⟨_,hD, ?_⟩
   have g23:Vm.AA (RS rb lp lcap L k e2 w2 A2) n3=none:=hD.none (dD n3 (by simp[Vm.AA]))
   have g22:Vm.AA (RS rb lp lcap L k e2 w2 A2) n2=none:=hD.none (dD n2 (by simp[Vm.AA,d32]))
   clear hD dD D nuE fr
   simp only[RS,Cp,List.cons_append,List.nil_append,C5,Ck]
   intro ν fr;have nuE:=And.intro (fr.mem (b:=n3) (by simp)) (And.intro (fr.mem (b:=n2) (by simp)) (fr.nu))
   simp (maxDischargeDepth:=16) only[AX,↓AW,simprocAttr,forall_const,nuE,fr.2,CF,d32]
   clear nuE fr
   refine AM.newX (Fr ((n3,.cells #[.int .i64 r.op,.string r.nm,.string r.tx,.int .i64 r.n,.slice r.p r.len r.cap] 36)::(n2,.cells #[.int .i64 0,.string ⟨#[]⟩,.string ⟨#[]⟩,.int .i64 0,.slice none 0 0] 36)::RS rb lp lcap L k e2 w2 A2) 12 r r2) (SubA.refl _) ?_
   rintro v B ⟨p',c',rfl,hS'⟩ hdB
   have s0:SubA (RS rb lp lcap L k e2 w2 A2) ((n3,.cells #[.int .i64 r.op,.string r.nm,.string r.tx,.int .i64 r.n,.slice r.p r.len r.cap] 36)::(n2,.cells #[.int .i64 0,.string ⟨#[]⟩,.string ⟨#[]⟩,.int .i64 0,.slice none 0 0] 36)::RS rb lp lcap L k e2 w2 A2):=s32 _ _ g22 g23
   have hp3:=hp2.app hdB s0
   have n53:Vm.AA B n3=none:=hdB n3 (by simp[Vm.AA])
   have n52:Vm.AA B n2=none:=hdB n2 (by simp[Vm.AA,d32])
   have dBA:Dis B A2:=Dis.subr hdB (SubA.trans (CL hp2) s0)
   refine⟨(n3,.cells #[.int .i64 r.op,.string r.nm,.string r.tx,.int .i64 r.n,.slice r.p r.len r.cap] 36)::(n2,.cells #[.int .i64 0,.string ⟨#[]⟩,.string ⟨#[]⟩,.int .i64 0,.slice none 0 0] 36)::RS rb lp lcap L k e2 w2 (A2++B),SubA.both (X:=(n3,.cells #[.int .i64 r.op,.string r.nm,.string r.tx,.int .i64 r.n,.slice r.p r.len r.cap] 36)::(n2,.cells #[.int .i64 0,.string ⟨#[]⟩,.string ⟨#[]⟩,.int .i64 0,.slice none 0 0] 36)::RS rb lp lcap L k e2 w2 A2) hdB.right (SubA.left _ _), ?_⟩
   simp only[RS,Cp,C5,Ck]
   intro ν fr;have nuE:=And.intro (fr.mem (b:=n3) (by simp)) (And.intro (fr.mem (b:=n2) (by simp)) (fr.nu))
   simp (maxDischargeDepth:=16) only[AX,↓AW,simprocAttr,forall_const,nuE,fr.2,CF,d32]
   have hst':(e2=0∧w2=w'∧i≤k∧ ∃t,ExR (A2++B) t ⟨12,eB,eB,0,p',2,c'⟩∧ ∀z,Pr L (.lp 3 t) k z→Pr L (.lv 3) i z)∨(e2≠0∧ ∃jj x,Pr L (.lv 3) i (.er e2 jj)∧L[jj]? =some x∧w2=(x.a:Int)):=by
    rcases hst2 with⟨h1,h2,t2,h3,h4⟩|⟨h1,jj,x,h2,h3,h4⟩
    ·exact .inl ⟨h1,h2,by have:=h3.le;omega,Ee 12 t t2,((hr.mono hs2).mono (SubA.left _ _)).two (h4.mono (SubA.left _ _)) (hS'.mono dBA.symm.right),fun z hz=>hq z (.lpO ho h3 hz)⟩
    ·exact .inr ⟨h1,jj,x,hq _ (.lpE ho h2),h3,h4⟩
   have hlt:(if e2=0 then L.length - k+1 else 0)<m:=by
    rw[←hm,if_pos rfl]
    rcases hst2 with⟨h1,h2,t2,h3,h4⟩|⟨h1,_⟩
    ·rw[if_pos h1];have:=h3.le;omega
    ·rw[if_neg h1];omega
   exact Ah.weak (ih _ hlt ⟨12,eB,eB,0,p',2,c'⟩ k e2 w2 (A2++B) hk (SubA.trans (SubA.trans hs hs2) (SubA.left _ _)) hp3 (AJ (B:=RS rb lp lcap L k e2 w2 A2) g22 n52) (AJ (B:=RS rb lp lcap L k e2 w2 A2) g23 n53) hst' rfl) (by simp only[BW,Ab,Nat.reduceEqDiff,↓reduceIte,reduceCtorEq,Nat.reduceAdd,and_self,and_true]) (SubA.refl _)
  | false=>
   rw[hmk]at htk
   simp only[Bool.false_eq_true,if_false]at htk
   refine AM.ownX (Y:=[(n3,_),(n2,_)]) htk (dis2 g3 g2) ?_
   rintro v D ⟨rfl,hD⟩ dD
   refine⟨_,hD, ?_⟩
   clear hD dD D nuE fr
   simp only[RS,Cp,List.cons_append,List.nil_append]
   intro ν fr;have nuE:=And.intro (fr.mem (b:=n3) (by simp)) (And.intro (fr.mem (b:=n2) (by simp)) (fr.nu))
   simp (maxDischargeDepth:=16) only[AX,↓AW,simprocAttr,forall_const,nuE,fr.2,CF,d32,m1,m2,m3,m4]
   cases hml:BX x 4 ⟨#[45]⟩with
   | true=>
    rw[hml]at htl
    simp only[if_true]at htl
    refine AM.ownX (Y:=[(n3,_),(n2,_)]) htl (dis2 g3 g2) ?_
    rintro v D ⟨rfl,hD⟩ dD
    refine⟨_,hD, ?_⟩
    clear hD dD D nuE fr
    simp only[RS,Cp,List.cons_append,List.nil_append]
    intro ν fr;have nuE:=And.intro (fr.mem (b:=n3) (by simp)) (And.intro (fr.mem (b:=n2) (by simp)) (fr.nu))
    simp (maxDischargeDepth:=16) only[AX,↓AW,simprocAttr,forall_const,nuE,fr.2,CF,d32,m1,m2,m3,m4]
    have hn2:=DZ hp'.he hx (by rw[Bu hml];decide)
    have ho:Hs 3 (BR L j)=some 13:=by rw[hlx,XV,hmk,hml];rfl
    refine CO.plan [(0,0),(1,0),(2,0),(3,0),(4,2)] [(n3,.cells #[.int .i64 r.op,.string r.nm,.string r.tx,.int .i64 r.n,.slice r.p r.len r.cap] 36)] (SubA.left [_] _) (by kernel_rfl) (by kernel_rfl) (by kernel_rfl) (by kernel_rfl) (by kernel_rfl) (by kernel_rfl) ?_
    clear nuE fr
    intro ν fr;have nuE:=And.intro (fr.mem (b:=n3) (by simp)) (And.intro (fr.mem (b:=n2) (by simp)) (fr.nu))
    simp (maxDischargeDepth:=16) only[AX,↓AW,simprocAttr,forall_const,nuE,fr.2,CF,d32,m1,m2,m3,m4]
    refine AM.ownX (Y:=[(n3,_),(n2,_)]) (hun (j+1) A' w' (by omega) hn2 hp') (dis2 (A8 g3) (A8 g2)) ?_
    rintro v D ⟨r2,k,e2,w2,A2,rfl,hk,hs2,hp2,hD,hst2⟩ dD
    refine⟨_,hD, ?_⟩
    have g23:Vm.AA (RS rb lp lcap L k e2 w2 A2) n3=none:=hD.none (dD n3 (by simp[Vm.AA]))
    have g22:Vm.AA (RS rb lp lcap L k e2 w2 A2) n2=none:=hD.none (dD n2 (by simp[Vm.AA,d32]))
    clear hD dD D nuE fr
    simp only[RS,Cp,List.cons_append,List.nil_append,C5,Ck]
    intro ν fr;have nuE:=And.intro (fr.mem (b:=n3) (by simp)) (And.intro (fr.mem (b:=n2) (by simp)) (fr.nu))
    simp (maxDischargeDepth:=16) only[AX,↓AW,simprocAttr,forall_const,nuE,fr.2,CF,d32]
    clear nuE fr
    refine AM.newX (Fr ((n3,.cells #[.int .i64 r.op,.string r.nm,.string r.tx,.int .i64 r.n,.slice r.p r.len r.cap] 36)::(n2,.cells #[.int .i64 0,.string ⟨#[]⟩,.string ⟨#[]⟩,.int .i64 0,.slice none 0 0] 36)::RS rb lp lcap L k e2 w2 A2) 13 r r2) (SubA.refl _) ?_
    rintro v B ⟨p',c',rfl,hS'⟩ hdB
    have s0:SubA (RS rb lp lcap L k e2 w2 A2) ((n3,.cells #[.int .i64 r.op,.string r.nm,.string r.tx,.int .i64 r.n,.slice r.p r.len r.cap] 36)::(n2,.cells #[.int .i64 0,.string ⟨#[]⟩,.string ⟨#[]⟩,.int .i64 0,.slice none 0 0] 36)::RS rb lp lcap L k e2 w2 A2):=s32 _ _ g22 g23
    have hp3:=hp2.app hdB s0
    have n53:Vm.AA B n3=none:=hdB n3 (by simp[Vm.AA])
    have n52:Vm.AA B n2=none:=hdB n2 (by simp[Vm.AA,d32])
    have dBA:Dis B A2:=Dis.subr hdB (SubA.trans (CL hp2) s0)
    refine⟨(n3,.cells #[.int .i64 r.op,.string r.nm,.string r.tx,.int .i64 r.n,.slice r.p r.len r.cap] 36)::(n2,.cells #[.int .i64 0,.string ⟨#[]⟩,.string ⟨#[]⟩,.int .i64 0,.slice none 0 0] 36)::RS rb lp lcap L k e2 w2 (A2++B),SubA.both (X:=(n3,.cells #[.int .i64 r.op,.string r.nm,.string r.tx,.int .i64 r.n,.slice r.p r.len r.cap] 36)::(n2,.cells #[.int .i64 0,.string ⟨#[]⟩,.string ⟨#[]⟩,.int .i64 0,.slice none 0 0] 36)::RS rb lp lcap L k e2 w2 A2) hdB.right (SubA.left _ _), ?_⟩
    simp only[RS,Cp,C5,Ck]
    intro ν fr;have nuE:=And.intro (fr.mem (b:=n3) (by simp)) (And.intro (fr.mem (b:=n2) (by simp)) (fr.nu))
    simp (maxDischargeDepth:=16) only[AX,↓AW,simprocAttr,forall_const,nuE,fr.2,CF,d32]
    have hst':(e2=0∧w2=w'∧i≤k∧ ∃t,ExR (A2++B) t ⟨13,eB,eB,0,p',2,c'⟩∧ ∀z,Pr L (.lp 3 t) k z→Pr L (.lv 3) i z)∨(e2≠0∧ ∃jj x,Pr L (.lv 3) i (.er e2 jj)∧L[jj]? =some x∧w2=(x.a:Int)):=by
     rcases hst2 with⟨h1,h2,t2,h3,h4⟩|⟨h1,jj,x,h2,h3,h4⟩
     ·exact .inl ⟨h1,h2,by have:=h3.le;omega,Ee 13 t t2,((hr.mono hs2).mono (SubA.left _ _)).two (h4.mono (SubA.left _ _)) (hS'.mono dBA.symm.right),fun z hz=>hq z (.lpO ho h3 hz)⟩
     ·exact .inr ⟨h1,jj,x,hq _ (.lpE ho h2),h3,h4⟩
    have hlt:(if e2=0 then L.length - k+1 else 0)<m:=by
     rw[←hm,if_pos rfl]
     rcases hst2 with⟨h1,h2,t2,h3,h4⟩|⟨h1,_⟩
     ·rw[if_pos h1];have:=h3.le;omega
     ·rw[if_neg h1];omega
    exact Ah.weak (ih _ hlt ⟨13,eB,eB,0,p',2,c'⟩ k e2 w2 (A2++B) hk (SubA.trans (SubA.trans hs hs2) (SubA.left _ _)) hp3 (AJ (B:=RS rb lp lcap L k e2 w2 A2) g22 n52) (AJ (B:=RS rb lp lcap L k e2 w2 A2) g23 n53) hst' rfl) (by simp only[BW,Ab,Nat.reduceEqDiff,↓reduceIte,reduceCtorEq,Nat.reduceAdd,and_self,and_true]) (SubA.refl _)
   |false=>
    rw[hml]at htl
    simp only[Bool.false_eq_true,if_false]at htl
    refine AM.ownX (Y:=[(n3,_),(n2,_)]) htl (dis2 g3 g2) ?_
    rintro v D ⟨rfl,hD⟩ dD
    refine⟨_,hD, ?_⟩
    clear hD dD D nuE fr
    simp only[RS,Cp,List.cons_append,List.nil_append]
    intro ν fr;have nuE:=And.intro (fr.mem (b:=n3) (by simp)) (And.intro (fr.mem (b:=n2) (by simp)) (fr.nu))
    simp (maxDischargeDepth:=16) only[AX,↓AW,simprocAttr,forall_const,nuE,fr.2,CF,d32,m1,m2,m3,m4]
    have ho:Hs 3 (BR L j)=none:=by rw[hlx,XV,hmk,hml];rfl
    exact⟨r,j,0,w',A',rfl,hj,hs,hp',SubA.fresh (AK d32.2 g3) (SubA.fresh g2 (SubA.refl _)),.inl ⟨rfl,rfl,t,hq _ (.lpN ho),hr⟩⟩
end Go.Proofs.YtfphceknmgadgaaGreatDoor
namespace Go.Vm
theorem AM.par{P:Program}{g:FuncId}{args:Array Value}{E Y X:AH}{K0 K:Value→AH→Prop}(hc:AM P g args E K0)(hd:Dis E Y)(hX:Dis E X)(hYX:Dis Y X)
  (hk: ∀v D,K0 v D→Dis D (Y++X)→ ∃F,SubA F D∧K v (Y++(F++X))):AM P g args (Y++(E++X)) K:=by
 refine AM.toX hc (SubA.trans (SubA.left E X) (Dis.appr hd.symm hYX).right) (Y++X) (SubA.app hX.right) (Dis.appr hd hX) fun v D h dD=> ?_
 obtain⟨F,h1,h2⟩:=hk v D h dD
 exact⟨_,SubA.both (SubA.trans (SubA.left Y X) dD.right) (SubA.both (SubA.trans h1 (SubA.left _ _)) (SubA.trans hYX.right dD.right)),h2⟩
end Go.Vm
namespace Go.Proofs.YtfphceknmgadgaaGreatDoor
open Go.Vm
set_option maxHeartbeats 4000000
set_option maxRecDepth 20000
theorem _root_.Go.Vm.Dis.rs{rb:Nat}{lp:Option Addr}{lcap i j:Nat}{L:List LR}{e e' w w':Int}{A X:AH}(h:Dis (RS rb lp lcap L i e w A) X):Dis (RS rb lp lcap L j e' w' A) X:=fun x hx=>A8 (h x hx)
theorem rT{f:FuncId}{l:Nat}{rb:Nat}{lp:Option Addr}{lcap:Nat}{L:List LR}{A:AH}{i:Nat}{e w:Int}(hp:RsOk rb lp L A)(hi:i<L.length)(h0:e=0→LF f l rb lp lcap L A i w)(hz:e≠0→AM Tryz.prog f #[.pointer (some ⟨rb,0,none⟩)] (RS rb lp lcap L i e w A) fun u D=>u=.agg #[.int .i64 0,.string ⟨#[]⟩,.string ⟨#[]⟩,.int .i64 0,.slice none 0 0]∧SubA (RS rb lp lcap L i e w A) D):
  AM Tryz.prog f #[.pointer (some ⟨rb,0,none⟩)] (RS rb lp lcap L i e w A) fun u D=> ∃r i' e' w' A',u=C5 r∧i'<L.length∧SubA A A'∧RsOk rb lp L A'∧SubA (RS rb lp lcap L i' e' w' A') D∧((e=0∧e'=0∧w'=w∧ ∃t,Pr L (.lv l) i (.ok t i')∧ExR A' t r)∨(e=0∧e'≠0∧ ∃j x,Pr L (.lv l) i (.er e' j)∧L[j]? =some x∧w'=(x.a:Int))∨(e≠0∧e'=e∧w'=w)):=by
 by_cases he:e=0
 ·subst he
  refine(h0 rfl).mono ?_
  rintro v D ⟨r,i',e',w',A',h1,h2,h3,h4,h5,h6|h6⟩
  ·exact⟨r,i',e',w',A',h1,h2,h3,h4,h5,.inl ⟨rfl,h6⟩⟩
  ·exact⟨r,i',e',w',A',h1,h2,h3,h4,h5,.inr (.inl ⟨rfl,h6⟩)⟩
 ·refine(hz he).mono ?_
  rintro v D ⟨rfl,h1⟩
  exact⟨r0,i,e,w,A,rfl,hi,SubA.refl _,hp,h1,.inr (.inr ⟨he,rfl,rfl⟩)⟩
theorem gq{X:AH}{a b:Nat}{o u:Obj}(ha:Vm.AA X a=none)(hb:Vm.AA X b=none):Dis [(a,o),(b,u)] X:=(dis2 ha hb).symm
theorem fz(rb:Nat)(lp:Option Addr)(lcap:Nat)(L:List LR)(A:AH)(hp:RsOk rb lp L A)(i:Nat)(hi:i<L.length)(w:Int)(hun: ∀k A' w,i≤k→k<L.length→RsOk rb lp L A'→LF 151 3 rb lp lcap L A' k w):AM Tryz.prog 136 #[.pointer (some ⟨rb,0,none⟩)] (RS rb lp lcap L i 0 w A) (fun u_ A_=>mT rb lp lcap L A w (Pr L (.lv 2) i) u_ A_):=by
 refine AR ⟨Tryz.prog,136,Tryz.f136,56,[0,2,3,4],⟨[151,113,152,114],none⟩,[],_⟩ rfl (args:=[_]) Tryz.func136 rfl (by kernel_rfl) Tryz.ntmps136 (by simp) (by kernel_rfl) ?_
 intro ν fr;have nuE:=fr.nu
 have f0:=fr.2 0
 simp (maxDischargeDepth:=16) only[AX,↓AW,simprocAttr,forall_const,nuE,fr.2,CF]
 have dst_:True:=(by simp[nuE]);generalize ν 0=n2 at dst_  f0⊢
 clear nuE fr dst_
 refine AM.ownX (Y:=[(n2,_)]) (hun i A w (Nat.le_refl _) hi hp) (Dis.one f0).symm ?_
 rintro v D ⟨r,j,e',w',A',rfl,hj,hs,hp',hD,hst0⟩ dD
 refine⟨_,hD, ?_⟩
 have g2:Vm.AA (RS rb lp lcap L j e' w' A') n2=none:=hD.none (dD n2 (by simp[Vm.AA]))
 clear hD dD D
 simp only[List.cons_append,List.nil_append,C5,Ck]
 intro ν fr;have nuE:=And.intro (fr.mem (b:=n2) (by simp)) (fr.nu)
 have f3:Vm.AA ((n2,_)::RS rb lp lcap L j e' w' A') (ν 0)=none:=fr.2 0
 simp (maxDischargeDepth:=16) only[AX,↓AW,simprocAttr,forall_const,nuE,fr.2,CF]
 have dst_:((ν 0=n2)=False)∧((n2=ν 0)=False):=(by simp[nuE]);generalize ν 0=n3 at dst_  f3⊢
 clear nuE fr
 have e32:n3≠n2:=fun h=>by rw[h]at f3;simp[Vm.AA]at f3
 have g3:Vm.AA (RS rb lp lcap L j e' w' A') n3=none:=by simpa only[Vm.AA,dst_,if_false]using f3
 have d32:=dst_
 clear f3 f0 dst_
 obtain⟨m1,m2⟩:=DB g2
 obtain⟨m3,m4⟩:=DB g3
 have s32: ∀{j:Nat} {e w:Int} {A':AH} (o o':Obj),Vm.AA (RS rb lp lcap L j e w A') n2=none→Vm.AA (RS rb lp lcap L j e w A') n3=none→SubA (RS rb lp lcap L j e w A') ((n3,o)::(n2,o')::RS rb lp lcap L j e w A'):=fun o o' h2 h3=>SubA.fresh (AK d32.2 h3) (SubA.fresh h2 (SubA.refl _))
 rcases hst0 with⟨rfl,rfl,t,hq,hr⟩|⟨he,jj,x,hq,hx,hw⟩
 rotate_left
 ·refine AM.ownX (Y:=[(n3,_),(n2,_)]) (Hi rb lp lcap L A' j e' w' he _ _) (dis2 g3 g2) ?_
  rintro v D ⟨rfl,hD⟩ dD
  refine⟨_,hD, ?_⟩
  clear hD dD D
  simp only[RS,Cp,List.cons_append,List.nil_append]
  intro ν fr;have nuE:=And.intro (fr.mem (b:=n3) (by simp)) (And.intro (fr.mem (b:=n2) (by simp)) (fr.nu))
  simp (maxDischargeDepth:=16) only[AX,↓AW,simprocAttr,forall_const,nuE,fr.2,CF,d32,m1,m2,m3,m4]
  clear nuE fr
  refine AM.ownX (Y:=[(n3,_),(n2,_)]) (Hi rb lp lcap L A' j e' w' he _ _) (dis2 g3 g2) ?_
  rintro v D ⟨rfl,hD⟩ dD
  refine⟨_,hD, ?_⟩
  clear hD dD D
  simp only[RS,Cp,List.cons_append,List.nil_append]
  intro ν fr;have nuE:=And.intro (fr.mem (b:=n3) (by simp)) (And.intro (fr.mem (b:=n2) (by simp)) (fr.nu))
  simp (maxDischargeDepth:=16) only[AX,↓AW,simprocAttr,forall_const,nuE,fr.2,CF,d32,m1,m2,m3,m4]
  clear nuE fr
  refine AM.ownX (Y:=[(n3,_),(n2,_)]) (Hi rb lp lcap L A' j e' w' he _ _) (dis2 g3 g2) ?_
  rintro v D ⟨rfl,hD⟩ dD
  refine⟨_,hD, ?_⟩
  clear hD dD D
  simp only[RS,Cp,List.cons_append,List.nil_append]
  intro ν fr;have nuE:=And.intro (fr.mem (b:=n3) (by simp)) (And.intro (fr.mem (b:=n2) (by simp)) (fr.nu))
  simp (maxDischargeDepth:=16) only[AX,↓AW,simprocAttr,forall_const,nuE,fr.2,CF,d32,m1,m2,m3,m4]
  clear nuE fr
  refine AM.ownX (Y:=[(n3,_),(n2,_)]) (Hi rb lp lcap L A' j e' w' he _ _) (dis2 g3 g2) ?_
  rintro v D ⟨rfl,hD⟩ dD
  refine⟨_,hD, ?_⟩
  clear hD dD D
  simp only[RS,Cp,List.cons_append,List.nil_append]
  intro ν fr;have nuE:=And.intro (fr.mem (b:=n3) (by simp)) (And.intro (fr.mem (b:=n2) (by simp)) (fr.nu))
  simp (maxDischargeDepth:=16) only[AX,↓AW,simprocAttr,forall_const,nuE,fr.2,CF,d32,m1,m2,m3,m4]
  clear nuE fr
  refine AM.ownX (Y:=[(n3,_),(n2,_)]) (Hi rb lp lcap L A' j e' w' he _ _) (dis2 g3 g2) ?_
  rintro v D ⟨rfl,hD⟩ dD
  refine⟨_,hD, ?_⟩
  clear hD dD D
  simp only[RS,Cp,List.cons_append,List.nil_append]
  intro ν fr;have nuE:=And.intro (fr.mem (b:=n3) (by simp)) (And.intro (fr.mem (b:=n2) (by simp)) (fr.nu))
  simp (maxDischargeDepth:=16) only[AX,↓AW,simprocAttr,forall_const,nuE,fr.2,CF,d32,m1,m2,m3,m4]
  clear nuE fr
  exact⟨r,j,e',w',A',rfl,hj,hs,hp',SubA.fresh (AK d32.2 g3) (SubA.fresh g2 (SubA.refl _)),.inr ⟨he,jj,x,.cmE hq,hx,hw⟩⟩
 have hij:=hq.le
 obtain⟨x,hx,hlx⟩:=Bw hj
 cases h1:BX x 4 ⟨#[61]⟩with
 |true=>
  have htk:=CZ rb lp lcap L A' hp' j x hx 0 w' 4 ⟨#[61]⟩
  rw[Ky,h1]at htk
  simp only[if_true]at htk
  refine AM.ownX (Y:=[(n3,_),(n2,_)]) htk (dis2 g3 g2) ?_
  rintro v D ⟨rfl,hD⟩ dD
  refine⟨_,hD, ?_⟩
  clear hD dD D htk
  simp only[RS,Cp,List.cons_append,List.nil_append]
  intro ν fr;have nuE:=And.intro (fr.mem (b:=n3) (by simp)) (And.intro (fr.mem (b:=n2) (by simp)) (fr.nu))
  simp (maxDischargeDepth:=16) only[AX,↓AW,simprocAttr,forall_const,nuE,fr.2,CF,d32,m1,m2,m3,m4]
  clear nuE fr
  have hn2:=DZ hp'.he hx (by rw[Bu h1];decide)
  have ho:Hf (BR L j)=some 8:=by rw[hlx];unfold Hf;rw[if_pos h1]
  refine CO.plan [(0,0),(1,0),(2,0),(3,0),(4,2)] [(n3,.cells #[.int .i64 r.op,.string r.nm,.string r.tx,.int .i64 r.n,.slice r.p r.len r.cap] 36)] (SubA.left [_] _) (by kernel_rfl) (by kernel_rfl) (by kernel_rfl) (by kernel_rfl) (by kernel_rfl) (by kernel_rfl) ?_
  intro ν fr;have nuE:=And.intro (fr.mem (b:=n3) (by simp)) (And.intro (fr.mem (b:=n2) (by simp)) (fr.nu))
  simp (maxDischargeDepth:=16) only[AX,↓AW,simprocAttr,forall_const,nuE,fr.2,CF,d32,m1,m2,m3,m4]
  clear nuE fr
  refine AM.ownX (Y:=[(n3,_),(n2,_)]) (hun (j+1) A' w' (by omega) hn2 hp') (dis2 (A8 g3) (A8 g2)) ?_
  rintro v D ⟨r2,k,e2,w2,A2,rfl,hk,hs2,hp2,hD,hst2⟩ dD
  refine⟨_,hD, ?_⟩
  have g23:Vm.AA (RS rb lp lcap L k e2 w2 A2) n3=none:=hD.none (dD n3 (by simp[Vm.AA]))
  have g22:Vm.AA (RS rb lp lcap L k e2 w2 A2) n2=none:=hD.none (dD n2 (by simp[Vm.AA,d32]))
  clear hD dD D
  simp only[RS,Cp,List.cons_append,List.nil_append,C5,Ck]
  intro ν fr;have nuE:=And.intro (fr.mem (b:=n3) (by simp)) (And.intro (fr.mem (b:=n2) (by simp)) (fr.nu))
  simp (maxDischargeDepth:=16) only[AX,↓AW,simprocAttr,forall_const,nuE,fr.2,CF,d32]
  clear nuE fr
  refine AM.newX (Fr ((n3,.cells #[.int .i64 r.op,.string r.nm,.string r.tx,.int .i64 r.n,.slice r.p r.len r.cap] 36)::(n2,.cells #[.int .i64 0,.string ⟨#[]⟩,.string ⟨#[]⟩,.int .i64 0,.slice none 0 0] 36)::RS rb lp lcap L k e2 w2 A2) 8 r r2) (SubA.refl _) ?_
  rintro v B ⟨p',c',rfl,hS'⟩ hdB
  have s0:SubA (RS rb lp lcap L k e2 w2 A2) ((n3,.cells #[.int .i64 r.op,.string r.nm,.string r.tx,.int .i64 r.n,.slice r.p r.len r.cap] 36)::(n2,.cells #[.int .i64 0,.string ⟨#[]⟩,.string ⟨#[]⟩,.int .i64 0,.slice none 0 0] 36)::RS rb lp lcap L k e2 w2 A2):=s32 _ _ g22 g23
  have hp3:=hp2.app hdB s0
  have n53:Vm.AA B n3=none:=hdB n3 (by simp[Vm.AA])
  have n52:Vm.AA B n2=none:=hdB n2 (by simp[Vm.AA,d32])
  have dBA:Dis B A2:=Dis.subr hdB (SubA.trans (CL hp2) s0)
  refine⟨(n3,.cells #[.int .i64 r.op,.string r.nm,.string r.tx,.int .i64 r.n,.slice r.p r.len r.cap] 36)::(n2,.cells #[.int .i64 0,.string ⟨#[]⟩,.string ⟨#[]⟩,.int .i64 0,.slice none 0 0] 36)::RS rb lp lcap L k e2 w2 (A2++B),SubA.both (X:=(n3,.cells #[.int .i64 r.op,.string r.nm,.string r.tx,.int .i64 r.n,.slice r.p r.len r.cap] 36)::(n2,.cells #[.int .i64 0,.string ⟨#[]⟩,.string ⟨#[]⟩,.int .i64 0,.slice none 0 0] 36)::RS rb lp lcap L k e2 w2 A2) hdB.right (SubA.left _ _), ?_⟩
  simp only[RS,Cp,C5,Ck]
  intro ν fr;have nuE:=And.intro (fr.mem (b:=n3) (by simp)) (And.intro (fr.mem (b:=n2) (by simp)) (fr.nu))
  simp (maxDischargeDepth:=16) only[AX,↓AW,simprocAttr,forall_const,nuE,fr.2,CF,d32]
  refine⟨⟨8,eB,eB,0,p',2,c'⟩,k,e2,w2,A2++B,rfl,hk,SubA.trans (SubA.trans hs hs2) (SubA.left _ _),hp3,SubA.fresh (AK d32.2 (AJ (B:=RS rb lp lcap L k e2 w2 A2) g23 n53)) (SubA.fresh (AJ (B:=RS rb lp lcap L k e2 w2 A2) g22 n52) (SubA.refl _)), ?_⟩
  rcases hst2 with⟨h1,h2,t2,h3,h4⟩|⟨h1,jj,x,h2,h3,h4⟩
  ·exact .inl ⟨h1,h2,Ee 8 t t2,.cmO hq ho h3,((hr.mono hs2).mono (SubA.left _ _)).two (h4.mono (SubA.left _ _)) (hS'.mono dBA.symm.right)⟩
  ·exact .inr ⟨h1,jj,x,.cmF hq ho h2,h3,h4⟩
 | false =>
  have htk:=CZ rb lp lcap L A' hp' j x hx 0 w' 4 ⟨#[61]⟩
  rw[Ky,h1]at htk
  simp only[Bool.false_eq_true,if_false]at htk
  refine AM.ownX (Y:=[(n3,_),(n2,_)]) htk (dis2 g3 g2) ?_
  rintro v D ⟨rfl,hD⟩ dD
  refine⟨_,hD, ?_⟩
  clear hD dD D htk
  simp only[RS,Cp,List.cons_append,List.nil_append]
  intro ν fr;have nuE:=And.intro (fr.mem (b:=n3) (by simp)) (And.intro (fr.mem (b:=n2) (by simp)) (fr.nu))
  simp (maxDischargeDepth:=16) only[AX,↓AW,simprocAttr,forall_const,nuE,fr.2,CF,d32,m1,m2,m3,m4]
  clear nuE fr
  cases h2:BX x 4 ⟨#[33,61]⟩with
  |true=>
   have htk:=CZ rb lp lcap L A' hp' j x hx 0 w' 4 ⟨#[33,61]⟩
   rw[Ky,h2]at htk
   simp only[if_true]at htk
   refine AM.ownX (Y:=[(n3,_),(n2,_)]) htk (dis2 g3 g2) ?_
   rintro v D ⟨rfl,hD⟩ dD
   refine⟨_,hD, ?_⟩
   clear hD dD D htk
   simp only[RS,Cp,List.cons_append,List.nil_append]
   intro ν fr;have nuE:=And.intro (fr.mem (b:=n3) (by simp)) (And.intro (fr.mem (b:=n2) (by simp)) (fr.nu))
   simp (maxDischargeDepth:=16) only[AX,↓AW,simprocAttr,forall_const,nuE,fr.2,CF,d32,m1,m2,m3,m4]
   clear nuE fr
   have hn2:=DZ hp'.he hx (by rw[Bu h2];decide)
   have ho:Hf (BR L j)=some 9:=by rw[hlx];unfold Hf;rw[if_neg (by rw[h1];decide),if_pos h2]
   refine CO.plan [(0,0),(1,0),(2,0),(3,0),(4,2)] [(n3,.cells #[.int .i64 r.op,.string r.nm,.string r.tx,.int .i64 r.n,.slice r.p r.len r.cap] 36)] (SubA.left [_] _) (by kernel_rfl) (by kernel_rfl) (by kernel_rfl) (by kernel_rfl) (by kernel_rfl) (by kernel_rfl) ?_
   intro ν fr;have nuE:=And.intro (fr.mem (b:=n3) (by simp)) (And.intro (fr.mem (b:=n2) (by simp)) (fr.nu))
   simp (maxDischargeDepth:=16) only[AX,↓AW,simprocAttr,forall_const,nuE,fr.2,CF,d32,m1,m2,m3,m4]
   clear nuE fr
   refine AM.ownX (Y:=[(n3,_),(n2,_)]) (hun (j+1) A' w' (by omega) hn2 hp') (dis2 (A8 g3) (A8 g2)) ?_
   rintro v D ⟨r2,k,e2,w2,A2,rfl,hk,hs2,hp2,hD,hst2⟩ dD
   refine⟨_,hD, ?_⟩
   have g23:Vm.AA (RS rb lp lcap L k e2 w2 A2) n3=none:=hD.none (dD n3 (by simp[Vm.AA]))
   have g22:Vm.AA (RS rb lp lcap L k e2 w2 A2) n2=none:=hD.none (dD n2 (by simp[Vm.AA,d32]))
   clear hD dD D
   simp only[RS,Cp,List.cons_append,List.nil_append,C5,Ck]
   intro ν fr;have nuE:=And.intro (fr.mem (b:=n3) (by simp)) (And.intro (fr.mem (b:=n2) (by simp)) (fr.nu))
   simp (maxDischargeDepth:=16) only[AX,↓AW,simprocAttr,forall_const,nuE,fr.2,CF,d32]
   clear nuE fr
   refine AM.newX (Fr ((n3,.cells #[.int .i64 r.op,.string r.nm,.string r.tx,.int .i64 r.n,.slice r.p r.len r.cap] 36)::(n2,.cells #[.int .i64 0,.string ⟨#[]⟩,.string ⟨#[]⟩,.int .i64 0,.slice none 0 0] 36)::RS rb lp lcap L k e2 w2 A2) 9 r r2) (SubA.refl _) ?_
   rintro v B ⟨p',c',rfl,hS'⟩ hdB
   have s0:SubA (RS rb lp lcap L k e2 w2 A2) ((n3,.cells #[.int .i64 r.op,.string r.nm,.string r.tx,.int .i64 r.n,.slice r.p r.len r.cap] 36)::(n2,.cells #[.int .i64 0,.string ⟨#[]⟩,.string ⟨#[]⟩,.int .i64 0,.slice none 0 0] 36)::RS rb lp lcap L k e2 w2 A2):=s32 _ _ g22 g23
   have hp3:=hp2.app hdB s0
   have n53:Vm.AA B n3=none:=hdB n3 (by simp[Vm.AA])
   have n52:Vm.AA B n2=none:=hdB n2 (by simp[Vm.AA,d32])
   have dBA:Dis B A2:=Dis.subr hdB (SubA.trans (CL hp2) s0)
   refine⟨(n3,.cells #[.int .i64 r.op,.string r.nm,.string r.tx,.int .i64 r.n,.slice r.p r.len r.cap] 36)::(n2,.cells #[.int .i64 0,.string ⟨#[]⟩,.string ⟨#[]⟩,.int .i64 0,.slice none 0 0] 36)::RS rb lp lcap L k e2 w2 (A2++B),SubA.both (X:=(n3,.cells #[.int .i64 r.op,.string r.nm,.string r.tx,.int .i64 r.n,.slice r.p r.len r.cap] 36)::(n2,.cells #[.int .i64 0,.string ⟨#[]⟩,.string ⟨#[]⟩,.int .i64 0,.slice none 0 0] 36)::RS rb lp lcap L k e2 w2 A2) hdB.right (SubA.left _ _), ?_⟩
   simp only[RS,Cp,C5,Ck]
   intro ν fr;have nuE:=And.intro (fr.mem (b:=n3) (by simp)) (And.intro (fr.mem (b:=n2) (by simp)) (fr.nu))
   simp (maxDischargeDepth:=16) only[AX,↓AW,simprocAttr,forall_const,nuE,fr.2,CF,d32]
   refine⟨⟨9,eB,eB,0,p',2,c'⟩,k,e2,w2,A2++B,rfl,hk,SubA.trans (SubA.trans hs hs2) (SubA.left _ _),hp3,SubA.fresh (AK d32.2 (AJ (B:=RS rb lp lcap L k e2 w2 A2) g23 n53)) (SubA.fresh (AJ (B:=RS rb lp lcap L k e2 w2 A2) g22 n52) (SubA.refl _)), ?_⟩
   rcases hst2 with⟨h1,h2,t2,h3,h4⟩|⟨h1,jj,x,h2,h3,h4⟩
   ·exact .inl ⟨h1,h2,Ee 9 t t2,.cmO hq ho h3,((hr.mono hs2).mono (SubA.left _ _)).two (h4.mono (SubA.left _ _)) (hS'.mono dBA.symm.right)⟩
   ·exact .inr ⟨h1,jj,x,.cmF hq ho h2,h3,h4⟩
  | false =>
   have htk:=CZ rb lp lcap L A' hp' j x hx 0 w' 4 ⟨#[33,61]⟩
   rw[Ky,h2]at htk
   simp only[Bool.false_eq_true,if_false]at htk
   refine AM.ownX (Y:=[(n3,_),(n2,_)]) htk (dis2 g3 g2) ?_
   rintro v D ⟨rfl,hD⟩ dD
   refine⟨_,hD, ?_⟩
   clear hD dD D htk
   simp only[RS,Cp,List.cons_append,List.nil_append]
   intro ν fr;have nuE:=And.intro (fr.mem (b:=n3) (by simp)) (And.intro (fr.mem (b:=n2) (by simp)) (fr.nu))
   simp (maxDischargeDepth:=16) only[AX,↓AW,simprocAttr,forall_const,nuE,fr.2,CF,d32,m1,m2,m3,m4]
   clear nuE fr
   cases h3:BX x 4 ⟨#[60]⟩with
   |true=>
    have htk:=CZ rb lp lcap L A' hp' j x hx 0 w' 4 ⟨#[60]⟩
    rw[Ky,h3]at htk
    simp only[if_true]at htk
    refine AM.ownX (Y:=[(n3,_),(n2,_)]) htk (dis2 g3 g2) ?_
    rintro v D ⟨rfl,hD⟩ dD
    refine⟨_,hD, ?_⟩
    clear hD dD D htk
    simp only[RS,Cp,List.cons_append,List.nil_append]
    intro ν fr;have nuE:=And.intro (fr.mem (b:=n3) (by simp)) (And.intro (fr.mem (b:=n2) (by simp)) (fr.nu))
    simp (maxDischargeDepth:=16) only[AX,↓AW,simprocAttr,forall_const,nuE,fr.2,CF,d32,m1,m2,m3,m4]
    clear nuE fr
    have hn2:=DZ hp'.he hx (by rw[Bu h3];decide)
    have ho:Hf (BR L j)=some 10:=by rw[hlx];unfold Hf;rw[if_neg (by rw[h1];decide),if_neg (by rw[h2];decide),if_pos h3]
    refine CO.plan [(0,0),(1,0),(2,0),(3,0),(4,2)] [(n3,.cells #[.int .i64 r.op,.string r.nm,.string r.tx,.int .i64 r.n,.slice r.p r.len r.cap] 36)] (SubA.left [_] _) (by kernel_rfl) (by kernel_rfl) (by kernel_rfl) (by kernel_rfl) (by kernel_rfl) (by kernel_rfl) ?_
    intro ν fr;have nuE:=And.intro (fr.mem (b:=n3) (by simp)) (And.intro (fr.mem (b:=n2) (by simp)) (fr.nu))
    simp (maxDischargeDepth:=16) only[AX,↓AW,simprocAttr,forall_const,nuE,fr.2,CF,d32,m1,m2,m3,m4]
    clear nuE fr
    refine AM.ownX (Y:=[(n3,_),(n2,_)]) (hun (j+1) A' w' (by omega) hn2 hp') (dis2 (A8 g3) (A8 g2)) ?_
    rintro v D ⟨r2,k,e2,w2,A2,rfl,hk,hs2,hp2,hD,hst2⟩ dD
    refine⟨_,hD, ?_⟩
    have g23:Vm.AA (RS rb lp lcap L k e2 w2 A2) n3=none:=hD.none (dD n3 (by simp[Vm.AA]))
    have g22:Vm.AA (RS rb lp lcap L k e2 w2 A2) n2=none:=hD.none (dD n2 (by simp[Vm.AA,d32]))
    clear hD dD D
    simp only[RS,Cp,List.cons_append,List.nil_append,C5,Ck]
    intro ν fr;have nuE:=And.intro (fr.mem (b:=n3) (by simp)) (And.intro (fr.mem (b:=n2) (by simp)) (fr.nu))
    simp (maxDischargeDepth:=16) only[AX,↓AW,simprocAttr,forall_const,nuE,fr.2,CF,d32]
    clear nuE fr
    refine AM.newX (Fr ((n3,.cells #[.int .i64 r.op,.string r.nm,.string r.tx,.int .i64 r.n,.slice r.p r.len r.cap] 36)::(n2,.cells #[.int .i64 0,.string ⟨#[]⟩,.string ⟨#[]⟩,.int .i64 0,.slice none 0 0] 36)::RS rb lp lcap L k e2 w2 A2) 10 r r2) (SubA.refl _) ?_
    rintro v B ⟨p',c',rfl,hS'⟩ hdB
    have s0:SubA (RS rb lp lcap L k e2 w2 A2) ((n3,.cells #[.int .i64 r.op,.string r.nm,.string r.tx,.int .i64 r.n,.slice r.p r.len r.cap] 36)::(n2,.cells #[.int .i64 0,.string ⟨#[]⟩,.string ⟨#[]⟩,.int .i64 0,.slice none 0 0] 36)::RS rb lp lcap L k e2 w2 A2):=s32 _ _ g22 g23
    have hp3:=hp2.app hdB s0
    have n53:Vm.AA B n3=none:=hdB n3 (by simp[Vm.AA])
    have n52:Vm.AA B n2=none:=hdB n2 (by simp[Vm.AA,d32])
    have dBA:Dis B A2:=Dis.subr hdB (SubA.trans (CL hp2) s0)
    refine⟨(n3,.cells #[.int .i64 r.op,.string r.nm,.string r.tx,.int .i64 r.n,.slice r.p r.len r.cap] 36)::(n2,.cells #[.int .i64 0,.string ⟨#[]⟩,.string ⟨#[]⟩,.int .i64 0,.slice none 0 0] 36)::RS rb lp lcap L k e2 w2 (A2++B),SubA.both (X:=(n3,.cells #[.int .i64 r.op,.string r.nm,.string r.tx,.int .i64 r.n,.slice r.p r.len r.cap] 36)::(n2,.cells #[.int .i64 0,.string ⟨#[]⟩,.string ⟨#[]⟩,.int .i64 0,.slice none 0 0] 36)::RS rb lp lcap L k e2 w2 A2) hdB.right (SubA.left _ _), ?_⟩
    simp only[RS,Cp,C5,Ck]
    intro ν fr;have nuE:=And.intro (fr.mem (b:=n3) (by simp)) (And.intro (fr.mem (b:=n2) (by simp)) (fr.nu))
    simp (maxDischargeDepth:=16) only[AX,↓AW,simprocAttr,forall_const,nuE,fr.2,CF,d32]
    refine⟨⟨10,eB,eB,0,p',2,c'⟩,k,e2,w2,A2++B,rfl,hk,SubA.trans (SubA.trans hs hs2) (SubA.left _ _),hp3,SubA.fresh (AK d32.2 (AJ (B:=RS rb lp lcap L k e2 w2 A2) g23 n53)) (SubA.fresh (AJ (B:=RS rb lp lcap L k e2 w2 A2) g22 n52) (SubA.refl _)), ?_⟩
    rcases hst2 with⟨h1,h2,t2,h3,h4⟩|⟨h1,jj,x,h2,h3,h4⟩
    ·exact .inl ⟨h1,h2,Ee 10 t t2,.cmO hq ho h3,((hr.mono hs2).mono (SubA.left _ _)).two (h4.mono (SubA.left _ _)) (hS'.mono dBA.symm.right)⟩
    ·exact .inr ⟨h1,jj,x,.cmF hq ho h2,h3,h4⟩
   | false =>
    have htk:=CZ rb lp lcap L A' hp' j x hx 0 w' 4 ⟨#[60]⟩
    rw[Ky,h3]at htk
    simp only[Bool.false_eq_true,if_false]at htk
    refine AM.ownX (Y:=[(n3,_),(n2,_)]) htk (dis2 g3 g2) ?_
    rintro v D ⟨rfl,hD⟩ dD
    refine⟨_,hD, ?_⟩
    clear hD dD D htk
    simp only[RS,Cp,List.cons_append,List.nil_append]
    intro ν fr;have nuE:=And.intro (fr.mem (b:=n3) (by simp)) (And.intro (fr.mem (b:=n2) (by simp)) (fr.nu))
    simp (maxDischargeDepth:=16) only[AX,↓AW,simprocAttr,forall_const,nuE,fr.2,CF,d32,m1,m2,m3,m4]
    clear nuE fr
    cases h4:BX x 4 ⟨#[60,61]⟩with
    |true=>
     have htk:=CZ rb lp lcap L A' hp' j x hx 0 w' 4 ⟨#[60,61]⟩
     rw[Ky,h4]at htk
     simp only[if_true]at htk
     refine AM.ownX (Y:=[(n3,_),(n2,_)]) htk (dis2 g3 g2) ?_
     rintro v D ⟨rfl,hD⟩ dD
     refine⟨_,hD, ?_⟩
     clear hD dD D htk
     simp only[RS,Cp,List.cons_append,List.nil_append]
     intro ν fr;have nuE:=And.intro (fr.mem (b:=n3) (by simp)) (And.intro (fr.mem (b:=n2) (by simp)) (fr.nu))
     simp (maxDischargeDepth:=16) only[AX,↓AW,simprocAttr,forall_const,nuE,fr.2,CF,d32,m1,m2,m3,m4]
     clear nuE fr
     have hn2:=DZ hp'.he hx (by rw[Bu h4];decide)
     have ho:Hf (BR L j)=some 11:=by rw[hlx];unfold Hf;rw[if_neg (by rw[h1];decide),if_neg (by rw[h2];decide),if_neg (by rw[h3];decide),if_pos h4]
     refine CO.plan [(0,0),(1,0),(2,0),(3,0),(4,2)] [(n3,.cells #[.int .i64 r.op,.string r.nm,.string r.tx,.int .i64 r.n,.slice r.p r.len r.cap] 36)] (SubA.left [_] _) (by kernel_rfl) (by kernel_rfl) (by kernel_rfl) (by kernel_rfl) (by kernel_rfl) (by kernel_rfl) ?_
     intro ν fr;have nuE:=And.intro (fr.mem (b:=n3) (by simp)) (And.intro (fr.mem (b:=n2) (by simp)) (fr.nu))
     simp (maxDischargeDepth:=16) only[AX,↓AW,simprocAttr,forall_const,nuE,fr.2,CF,d32,m1,m2,m3,m4]
     clear nuE fr
     refine AM.ownX (Y:=[(n3,_),(n2,_)]) (hun (j+1) A' w' (by omega) hn2 hp') (dis2 (A8 g3) (A8 g2)) ?_
     rintro v D ⟨r2,k,e2,w2,A2,rfl,hk,hs2,hp2,hD,hst2⟩ dD
     refine⟨_,hD, ?_⟩
     have g23:Vm.AA (RS rb lp lcap L k e2 w2 A2) n3=none:=hD.none (dD n3 (by simp[Vm.AA]))
     have g22:Vm.AA (RS rb lp lcap L k e2 w2 A2) n2=none:=hD.none (dD n2 (by simp[Vm.AA,d32]))
     clear hD dD D
     simp only[RS,Cp,List.cons_append,List.nil_append,C5,Ck]
     intro ν fr;have nuE:=And.intro (fr.mem (b:=n3) (by simp)) (And.intro (fr.mem (b:=n2) (by simp)) (fr.nu))
     simp (maxDischargeDepth:=16) only[AX,↓AW,simprocAttr,forall_const,nuE,fr.2,CF,d32]
     clear nuE fr
     refine AM.newX (Fr ((n3,.cells #[.int .i64 r.op,.string r.nm,.string r.tx,.int .i64 r.n,.slice r.p r.len r.cap] 36)::(n2,.cells #[.int .i64 0,.string ⟨#[]⟩,.string ⟨#[]⟩,.int .i64 0,.slice none 0 0] 36)::RS rb lp lcap L k e2 w2 A2) 11 r r2) (SubA.refl _) ?_
     rintro v B ⟨p',c',rfl,hS'⟩ hdB
     have s0:SubA (RS rb lp lcap L k e2 w2 A2) ((n3,.cells #[.int .i64 r.op,.string r.nm,.string r.tx,.int .i64 r.n,.slice r.p r.len r.cap] 36)::(n2,.cells #[.int .i64 0,.string ⟨#[]⟩,.string ⟨#[]⟩,.int .i64 0,.slice none 0 0] 36)::RS rb lp lcap L k e2 w2 A2):=s32 _ _ g22 g23
     have hp3:=hp2.app hdB s0
     have n53:Vm.AA B n3=none:=hdB n3 (by simp[Vm.AA])
     have n52:Vm.AA B n2=none:=hdB n2 (by simp[Vm.AA,d32])
     have dBA:Dis B A2:=Dis.subr hdB (SubA.trans (CL hp2) s0)
     refine⟨(n3,.cells #[.int .i64 r.op,.string r.nm,.string r.tx,.int .i64 r.n,.slice r.p r.len r.cap] 36)::(n2,.cells #[.int .i64 0,.string ⟨#[]⟩,.string ⟨#[]⟩,.int .i64 0,.slice none 0 0] 36)::RS rb lp lcap L k e2 w2 (A2++B),SubA.both (X:=(n3,.cells #[.int .i64 r.op,.string r.nm,.string r.tx,.int .i64 r.n,.slice r.p r.len r.cap] 36)::(n2,.cells #[.int .i64 0,.string ⟨#[]⟩,.string ⟨#[]⟩,.int .i64 0,.slice none 0 0] 36)::RS rb lp lcap L k e2 w2 A2) hdB.right (SubA.left _ _), ?_⟩
     simp only[RS,Cp,C5,Ck]
     intro ν fr;have nuE:=And.intro (fr.mem (b:=n3) (by simp)) (And.intro (fr.mem (b:=n2) (by simp)) (fr.nu))
     simp (maxDischargeDepth:=16) only[AX,↓AW,simprocAttr,forall_const,nuE,fr.2,CF,d32]
     refine⟨⟨11,eB,eB,0,p',2,c'⟩,k,e2,w2,A2++B,rfl,hk,SubA.trans (SubA.trans hs hs2) (SubA.left _ _),hp3,SubA.fresh (AK d32.2 (AJ (B:=RS rb lp lcap L k e2 w2 A2) g23 n53)) (SubA.fresh (AJ (B:=RS rb lp lcap L k e2 w2 A2) g22 n52) (SubA.refl _)), ?_⟩
     rcases hst2 with⟨h1,h2,t2,h3,h4⟩|⟨h1,jj,x,h2,h3,h4⟩
     ·exact .inl ⟨h1,h2,Ee 11 t t2,.cmO hq ho h3,((hr.mono hs2).mono (SubA.left _ _)).two (h4.mono (SubA.left _ _)) (hS'.mono dBA.symm.right)⟩
     ·exact .inr ⟨h1,jj,x,.cmF hq ho h2,h3,h4⟩
    | false =>
     have htk:=CZ rb lp lcap L A' hp' j x hx 0 w' 4 ⟨#[60,61]⟩
     rw[Ky,h4]at htk
     simp only[Bool.false_eq_true,if_false]at htk
     refine AM.ownX (Y:=[(n3,_),(n2,_)]) htk (dis2 g3 g2) ?_
     rintro v D ⟨rfl,hD⟩ dD
     refine⟨_,hD, ?_⟩
     clear hD dD D htk
     simp only[RS,Cp,List.cons_append,List.nil_append]
     intro ν fr;have nuE:=And.intro (fr.mem (b:=n3) (by simp)) (And.intro (fr.mem (b:=n2) (by simp)) (fr.nu))
     simp (maxDischargeDepth:=16) only[AX,↓AW,simprocAttr,forall_const,nuE,fr.2,CF,d32,m1,m2,m3,m4]
     clear nuE fr
     have hoc:Hf (BR L j)=none:=by rw[hlx];unfold Hf;rw[if_neg (by rw[h1];decide),if_neg (by rw[h2];decide),if_neg (by rw[h3];decide),if_neg (by rw[h4];decide)]
     cases h5:BX x 1 ⟨#[105,110]⟩with
     | true =>
      have htk:=CZ rb lp lcap L A' hp' j x hx 0 w' 1 ⟨#[105,110]⟩
      rw[Ky,h5]at htk
      simp only[if_true]at htk
      refine AM.ownX (Y:=[(n3,_),(n2,_)]) htk (dis2 g3 g2) ?_
      rintro v D ⟨rfl,hD⟩ dD
      refine⟨_,hD, ?_⟩
      clear hD dD D htk
      simp only[RS,Cp,List.cons_append,List.nil_append]
      intro ν fr;have nuE:=And.intro (fr.mem (b:=n3) (by simp)) (And.intro (fr.mem (b:=n2) (by simp)) (fr.nu))
      simp (maxDischargeDepth:=16) only[AX,↓AW,simprocAttr,forall_const,nuE,fr.2,CF,d32,m1,m2,m3,m4]
      clear nuE fr
      have hn2:=DZ hp'.he hx (by rw[Bu h5];decide)
      have hin:W4 (BR L j)=true:=by unfold W4;rw[hlx,h5]
      obtain⟨y,hy,hly⟩:=Bw hn2
      refine AM.ownX (Y:=[(n3,_),(n2,_)]) (Gu rb lp lcap L A' hp' (j+1) y hy 0 w' 4 ⟨#[40]⟩) (dis2 (A8 g3) (A8 g2)) ?_
      rintro v D ⟨rfl,hD⟩ dD
      refine⟨_,hD, ?_⟩
      clear hD dD D
      obtain⟨i1,e1,w1,ei,ee,ew,hS1⟩: ∃i1 e1 w1,Da 0 (BX y 4 ⟨#[40]⟩) (j+1)=i1∧EP 0 (BX y 4 ⟨#[40]⟩)=e1∧D9 0 w' (BX y 4 ⟨#[40]⟩) y=w1∧((e1=0∧w1=w'∧i1=j+2∧BX y 4 ⟨#[40]⟩=true)∨(e1=2∧w1=(y.a:Int)∧i1=j+1∧BX y 4 ⟨#[40]⟩=false)):=by
       refine⟨_,_,_,rfl,rfl,rfl, ?_⟩
       cases hc:BX y 4 ⟨#[40]⟩with
       |true=>exact .inl ⟨rfl,rfl,rfl,rfl⟩
       |false=>exact .inr ⟨rfl,rfl,rfl,rfl⟩
      rw[ei,ee,ew]
      clear ei ee ew
      have hi1:i1<L.length:=by
       rcases hS1 with⟨_,_,h,hc⟩|⟨_,_,h,_⟩
       ·rw[h];exact DZ hp'.he hy (by rw[Bu hc];decide)
       ·omega
      have hij1:i≤i1:=by rcases hS1 with⟨_,_,h,_⟩|⟨_,_,h,_⟩<;>omega
      simp only[RS,Cp,List.cons_append,List.nil_append]
      intro ν fr;have nuE:=And.intro (fr.mem (b:=n3) (by simp)) (And.intro (fr.mem (b:=n2) (by simp)) (fr.nu))
      simp (maxDischargeDepth:=16) only[AX,↓AW,simprocAttr,forall_const,nuE,fr.2,CF,d32,m1,m2,m3,m4]
      clear nuE fr
      refine CO.plan [(0,0),(1,0),(2,0),(3,2),(4,0)] [(n3,.cells #[.int .i64 r.op,.string r.nm,.string r.tx,.int .i64 r.n,.slice r.p r.len r.cap] 36)] (SubA.left [_] _) (by kernel_rfl) (by kernel_rfl) (by kernel_rfl) (by kernel_rfl) (by kernel_rfl) (by kernel_rfl) ?_
      intro ν fr;have nuE:=And.intro (fr.mem (b:=n3) (by simp)) (And.intro (fr.mem (b:=n2) (by simp)) (fr.nu))
      simp (maxDischargeDepth:=16) only[AX,↓AW,simprocAttr,forall_const,nuE,fr.2,CF,d32,m1,m2,m3,m4]
      clear nuE fr
      refine AM.ownX (Y:=[(n3,_),(n2,_)]) (rT (l:=3) hp' hi1 (fun he=>by subst he;exact hun i1 A' w1 hij1 hi1 hp') (fun he=>jC rb lp lcap L A' i1 e1 w1 he)) (dis2 (A8 g3) (A8 g2)) ?_
      rintro v D ⟨r2,k,e2,w2,A2,rfl,hk,hs2,hp2,hD,hst2⟩ dD
      refine⟨_,hD, ?_⟩
      have g23:Vm.AA (RS rb lp lcap L k e2 w2 A2) n3=none:=hD.none (dD n3 (by simp[Vm.AA]))
      have g22:Vm.AA (RS rb lp lcap L k e2 w2 A2) n2=none:=hD.none (dD n2 (by simp[Vm.AA,d32]))
      clear hD dD D
      simp only[RS,Cp,List.cons_append,List.nil_append,C5,Ck]
      intro ν fr;have nuE:=And.intro (fr.mem (b:=n3) (by simp)) (And.intro (fr.mem (b:=n2) (by simp)) (fr.nu))
      have f5:Vm.AA ((n3,.cells #[.int .i64 r.op,.string r.nm,.string r.tx,.int .i64 r.n,.slice r.p r.len r.cap] 36)::(n2,.cells #[.int .i64 0,.string ⟨#[]⟩,.string ⟨#[]⟩,.int .i64 0,.slice none 0 0] 36)::RS rb lp lcap L k e2 w2 A2) (ν 0)=none:=fr.2 0
      simp (maxDischargeDepth:=16) only[AX,↓AW,simprocAttr,forall_const,nuE,fr.2,CF,d32,F5]
      have dst_:((ν 0=n3)=False)∧((ν 0=n2)=False)∧((n3=ν 0)=False)∧((n2=ν 0)=False):=(by simp[nuE]);generalize ν 0=n5 at dst_  f5⊢
      clear nuE fr
      obtain⟨v,Q,rs,hv,hQ,ho,dQ,hinv,hb1,hb2⟩: ∃(v:Value) (Q:AH) (rs:List Xr),v=.slice (some ⟨n5,0,none⟩) 2 2∧Q=[(n5,.cells #[.int .i64 r.op,.string r.nm,.string r.tx,.int .i64 r.n,.slice r.p r.len r.cap,.int .i64 r2.op,.string r2.nm,.string r2.tx,.int .i64 r2.n,.slice r2.p r2.len r2.cap] 36)]∧Cq Ck 5 36 v Q rs∧Dis Q ((n3,.cells #[.int .i64 r.op,.string r.nm,.string r.tx,.int .i64 r.n,.slice r.p r.len r.cap] 36)::(n2,.cells #[.int .i64 0,.string ⟨#[]⟩,.string ⟨#[]⟩,.int .i64 0,.slice none 0 0] 36)::RS rb lp lcap L k e2 w2 A2)∧
        ((e2=0∧w2=w'∧i≤k∧ ∃xs:List Xs,rs.length=xs.length∧(∀(m:Nat) (y:Xs) (s:Xr),xs[m]? =some y→rs[m]? =some s→ExR A2 y s)∧ ∀z,qw L xs k z→Pr L (.lv 2) i z)∨(e2≠0∧ ∃jj x,Pr L (.lv 2) i (.er e2 jj)∧L[jj]? =some x∧w2=(x.a:Int)))∧(e2=0→rs.length≤k+2)∧rs.length≤100003:=by
       refine⟨_,_,[r,r2],rfl,rfl,bh n5 _ [r,r2] (by simp),Dis.one f5, ?_,by simp,by simp⟩
       have hj1:BR L (j+1)=y:=hly
       rcases hst2 with⟨h1,h2,h3,t2,h4,h5⟩|⟨h1,h2,jj,z,h3,h4,h5⟩|⟨h1,h2,h3⟩
       ·rcases hS1 with⟨_,hw,hi2,hc⟩|⟨h9,_⟩
        rotate_left
        ·rw[h1]at h9;cases h9
        refine .inl ⟨h2,by rw[h3,hw],by have:=h4.le;omega,[t,t2],rfl, ?_, ?_⟩
        ·intro m y s hy hs'
         match m with
         |0=>simp at hy hs';subst hy;subst hs';exact hr.mono hs2
         |1=>simp at hy hs';subst hy;subst hs';exact h5
         |m+2=>simp at hy
        ·rw[hi2]at h4
         have hp1:BX (BR L (j+1)) 4 ⟨#[40]⟩=true:=by rw[hj1];exact hc
         rintro z (⟨c1,c2⟩|⟨c1,c2,rfl⟩|⟨c1,c2,rfl⟩)
         ·exact .inC hq hoc hin hp1 (.chM h4 c1 c2)
         ·exact .inC hq hoc hin hp1 (.chO h4 c1 c2)
         ·exact .inC hq hoc hin hp1 (.chB h4 c1 c2)
       ·rcases hS1 with⟨_,hw,hi2,hc⟩|⟨h9,_⟩
        rotate_left
        ·rw[h1]at h9;cases h9
        rw[hi2]at h3
        exact .inr ⟨h2,jj,z,.inC hq hoc hin (by rw[hj1];exact hc) (.chE h3),h4,h5⟩
       ·rcases hS1 with⟨h9,_⟩|⟨h9,hw,hi2,hc⟩
        ·exact absurd h9 h1
        exact .inr ⟨by rw[h2];exact h1,j+1,y,by rw[h2,h9];exact .inP hq hoc hin (by rw[hj1];exact hc),hy,by rw[h3,hw]⟩
      rw[show(4,some (Value.slice (some ⟨n5,0,none⟩) 2 2))=(4,some v) by rw[hv]]
      refine Ah.at (A:=(n3,.cells #[.int .i64 r.op,.string r.nm,.string r.tx,.int .i64 r.n,.slice r.p r.len r.cap] 36)::(n2,.cells #[.int .i64 0,.string ⟨#[]⟩,.string ⟨#[]⟩,.int .i64 0,.slice none 0 0] 36)::RS rb lp lcap L k e2 w2 (A2++Q)) (by
       have e9:=dQ.right
       rw[hQ]at e9⊢
       exact SubA.both (X:=(n3,.cells #[.int .i64 r.op,.string r.nm,.string r.tx,.int .i64 r.n,.slice r.p r.len r.cap] 36)::(n2,.cells #[.int .i64 0,.string ⟨#[]⟩,.string ⟨#[]⟩,.int .i64 0,.slice none 0 0] 36)::RS rb lp lcap L k e2 w2 A2) e9 (SubA.left _ _)) ?_
      have hsA:=SubA.trans hs hs2
      clear hv hQ hst2 hS1 f5 dst_ hr hq hs2 hs hp' hi1 hij1 hy hly hx hlx g2 g3 m1 m2 m3 m4 hoc hin hij hn2 h1 h2 h3 h4 h5 hj
      generalize hm:(if e2=0 then L.length - k+1 else 0)=m
      induction m using Nat.strongRecOn generalizing v Q rs k e2 w2 A2 with
      | ind m ih=>
       obtain⟨p,cap,rfl,hc1,hS⟩:=Cq.read (f:=Ck) (n:=5) (fun x=>rfl) ho
       obtain⟨m1,m2⟩:=DB g22
       obtain⟨m3,m4⟩:=DB g23
       obtain⟨y,hy,hly⟩:=Bw hk
       have dPQ:Dis (RS rb lp lcap L k e2 w2 A2) Q:=(Dis.subr dQ (s32 _ _ g22 g23)).symm
       have q3:Vm.AA Q n3=none:=dQ n3 (by simp[Vm.AA])
       have q2:Vm.AA Q n2=none:=dQ n2 (by simp[Vm.AA,d32])
       have dYQ: ∀o o':Obj,Dis [(n3,o),(n2,o')] Q:=fun o o'=>gq q3 q2
       refine Ah.intro (by kernel_rfl) ?_
       simp only[RS,Cp]
       intro ν fr;have nuE:=And.intro (fr.mem (b:=n3) (by simp)) (And.intro (fr.mem (b:=n2) (by simp)) (fr.nu))
       simp (maxDischargeDepth:=16) only[AX,↓AW,simprocAttr,forall_const,nuE,fr.2,CF,d32,m1,m2,m3,m4]
       clear nuE fr
       refine AM.par (Y:=[(n3,_),(n2,_)]) (X:=Q) (CZ rb lp lcap L A2 hp2 k y hy e2 w2 4 ⟨#[44]⟩) (dis2 g23 g22) dPQ (dYQ _ _) ?_
       rintro v D ⟨rfl,hD⟩ dD
       refine⟨_,hD, ?_⟩
       clear hD dD D
       cases htb:E7 e2 y 4 ⟨#[44]⟩with
       | true=>
        have he2:e2=0:=by simp[E7]at htb;exact htb.1
        subst he2
        have hmk:BX y 4 ⟨#[44]⟩=true:=by simpa[E7]using htb
        have hmk':BX (BR L k) 4 ⟨#[44]⟩=true:=by rw[hly];exact hmk
        have hn3:=DZ hp2.he hy (by rw[Bu hmk];decide)
        rcases hinv with⟨_,hw2,hik2,xs,hlen,hxs,hR⟩|⟨h9,_⟩
        rotate_left
        ·exact absurd rfl h9
        have hk2b:=hb1 rfl
        simp only[if_true,RS,Cp,List.cons_append,List.nil_append]
        intro ν fr;have nuE:=And.intro (fr.mem (b:=n3) (by simp)) (And.intro (fr.mem (b:=n2) (by simp)) (fr.nu))
        simp (maxDischargeDepth:=16) only[AX,↓AW,simprocAttr,forall_const,nuE,fr.2,CF,d32,m1,m2,m3,m4]
        clear nuE fr
        refine AM.par (Y:=[(n3,_),(n2,_)]) (X:=Q) (hun (k+1) A2 w2 (by omega) hn3 hp2) (dis2 (A8 g23) (A8 g22)) dPQ.rs (dYQ _ _) ?_
        rintro v D ⟨r3,k3,e3,w3,A3,rfl,hk3,hs3,hp3,hD,hst3⟩ dD
        refine⟨_,hD, ?_⟩
        have g33:Vm.AA (RS rb lp lcap L k3 e3 w3 A3) n3=none:=hD.none (dD n3 (by simp[Vm.AA]))
        have g32:Vm.AA (RS rb lp lcap L k3 e3 w3 A3) n2=none:=hD.none (dD n2 (by simp[Vm.AA,d32]))
        have dPQ3:Dis (RS rb lp lcap L k3 e3 w3 A3) Q:=Dis.subr (dD.subl hD) (SubA.skip q3 (SubA.skip q2 (SubA.refl _)))
        clear hD dD D
        simp only[RS,Cp,List.cons_append,List.nil_append,C5,Ck]
        intro ν fr;have nuE:=And.intro (fr.mem (b:=n3) (by simp)) (And.intro (fr.mem (b:=n2) (by simp)) (fr.nu))
        have g6:Vm.AA ((n3,.cells #[.int .i64 r.op,.string r.nm,.string r.tx,.int .i64 r.n,.slice r.p r.len r.cap] 36)::(n2,.cells #[.int .i64 0,.string ⟨#[]⟩,.string ⟨#[]⟩,.int .i64 0,.slice none 0 0] 36)::RS rb lp lcap L k3 e3 w3 (A3++Q)) (ν 0)=none:=fr.2 0
        simp (maxDischargeDepth:=16) only[AX,↓AW,simprocAttr,forall_const,nuE,fr.2,CF,d32,OU]
        have dst_:((ν 0=n3)=False)∧((ν 0=n2)=False)∧((n3=ν 0)=False)∧((n2=ν 0)=False):=(by simp[nuE]);generalize ν 0=n6 at dst_  g6⊢
        clear nuE fr
        have sQ:SubA Q ((n3,.cells #[.int .i64 r.op,.string r.nm,.string r.tx,.int .i64 r.n,.slice r.p r.len r.cap] 36)::(n2,.cells #[.int .i64 0,.string ⟨#[]⟩,.string ⟨#[]⟩,.int .i64 0,.slice none 0 0] 36)::RS rb lp lcap L k3 e3 w3 (A3++Q)):=SubA.skip q3 (SubA.skip q2 dPQ3.right)
        have sW:SubA ((n3,.cells #[.int .i64 r.op,.string r.nm,.string r.tx,.int .i64 r.n,.slice r.p r.len r.cap] 36)::(n2,.cells #[.int .i64 0,.string ⟨#[]⟩,.string ⟨#[]⟩,.int .i64 0,.slice none 0 0] 36)::RS rb lp lcap L k3 e3 w3 A3) ((n3,.cells #[.int .i64 r.op,.string r.nm,.string r.tx,.int .i64 r.n,.slice r.p r.len r.cap] 36)::(n2,.cells #[.int .i64 0,.string ⟨#[]⟩,.string ⟨#[]⟩,.int .i64 0,.slice none 0 0] 36)::RS rb lp lcap L k3 e3 w3 (A3++Q)):=SubA.left ((n3,.cells #[.int .i64 r.op,.string r.nm,.string r.tx,.int .i64 r.n,.slice r.p r.len r.cap] 36)::(n2,.cells #[.int .i64 0,.string ⟨#[]⟩,.string ⟨#[]⟩,.int .i64 0,.slice none 0 0] 36)::RS rb lp lcap L k3 e3 w3 A3) Q
        have dQ3:Dis Q ((n3,.cells #[.int .i64 r.op,.string r.nm,.string r.tx,.int .i64 r.n,.slice r.p r.len r.cap] 36)::(n2,.cells #[.int .i64 0,.string ⟨#[]⟩,.string ⟨#[]⟩,.int .i64 0,.slice none 0 0] 36)::RS rb lp lcap L k3 e3 w3 A3):=Fm q3 (Fm q2 dPQ3.symm)
        have hbd:rs.length≤100002:=by have:=hp2.hl;omega
        refine NJ.use ?_
        refine Ey (m:=1) (news:=Ck r3) (B:=Q) RL QL rfl (by decide) ho (SubA.trans sQ (SubA.fresh g6 (SubA.refl _))) (.inr ⟨n6,0,rfl,by simp[Vm.AA,DX,Ck]⟩) (by simp[Ck,Value.oneCell']) (by simp only[maxLen];omega) (by omega) ?_
        intro v' Q' ho2 hb3
        have ho3:Cq Ck 5 36 v' Q' (rs++[r3]):=by
         unfold Cq
         rw[List.length_append,List.flatMap_append]
         simpa using ho2
        have dQ':Dis Q' ((n3,.cells #[.int .i64 r.op,.string r.nm,.string r.tx,.int .i64 r.n,.slice r.p r.len r.cap] 36)::(n2,.cells #[.int .i64 0,.string ⟨#[]⟩,.string ⟨#[]⟩,.int .i64 0,.slice none 0 0] 36)::RS rb lp lcap L k3 e3 w3 A3):=Ll hb3 dQ3 (SubA.trans sW (SubA.fresh g6 (SubA.refl _)))
        refine⟨((n3,.cells #[.int .i64 r.op,.string r.nm,.string r.tx,.int .i64 r.n,.slice r.p r.len r.cap] 36)::(n2,.cells #[.int .i64 0,.string ⟨#[]⟩,.string ⟨#[]⟩,.int .i64 0,.slice none 0 0] 36)::RS rb lp lcap L k3 e3 w3 A3)++Q',SubA.both (dQ'.sub (SubA.trans sW (SubA.fresh g6 (SubA.refl _)))) (SubA.left _ _), ?_⟩
        simp only[RS,Cp,List.cons_append]
        intro ν fr;have nuE:=And.intro (fr.mem (b:=n3) (by simp)) (And.intro (fr.mem (b:=n2) (by simp)) (fr.nu))
        simp (maxDischargeDepth:=16) only[AX,↓AW,simprocAttr,forall_const,nuE,fr.2,CF]
        have hinv':(e3=0∧w3=w'∧i≤k3∧ ∃xs:List Xs,(rs++[r3]).length=xs.length∧(∀(m:Nat) (y:Xs) (s:Xr),xs[m]? =some y→(rs++[r3])[m]? =some s→ExR A3 y s)∧ ∀z,qw L xs k3 z→Pr L (.lv 2) i z)∨(e3≠0∧ ∃jj x,Pr L (.lv 2) i (.er e3 jj)∧L[jj]? =some x∧w3=(x.a:Int)):=by
         rcases hst3 with⟨h1,h2,t3,h3,h4⟩|⟨h1,jj,x,h2,h3,h4⟩
         ·refine .inl ⟨h1,by rw[h2,hw2],by have:=h3.le;omega,xs++[t3],by simp[hlen], ?_, ?_⟩
          ·intro m y s hy hs'
           by_cases hm':m<xs.length
           ·rw[List.getElem?_append_left hm']at hy
            rw[List.getElem?_append_left (by omega)]at hs'
            exact(hxs m y s hy hs').mono hs3
           ·rw[List.getElem?_append_right (by omega)]at hy hs'
            rw[hlen]at hs'
            generalize m - xs.length=q at hy hs'
            match q with
            |0=>simp at hy hs';subst hy;subst hs';exact h4
            |q+1=>simp at hy
          ·rintro z (⟨c1,c2⟩|⟨c1,c2,rfl⟩|⟨c1,c2,rfl⟩)
           ·exact hR _ (.inl ⟨hmk',.chM h3 c1 c2⟩)
           ·exact hR _ (.inl ⟨hmk',.chO h3 c1 c2⟩)
           ·exact hR _ (.inl ⟨hmk',.chB h3 c1 c2⟩)
         ·exact .inr ⟨h1,jj,x,hR _ (.inl ⟨hmk',.chE h2⟩),h3,h4⟩
        have hle3:e3=0→k+1≤k3:=fun he=>by
         rcases hst3 with⟨h1,h2,t3,h3,h4⟩|⟨h1,_⟩
         ·exact h3.le
         ·exact absurd he h1
        have hlt:(if e3=0 then L.length - k3+1 else 0)<m:=by
         rw[←hm,if_pos rfl]
         split
         ·rename_i h;have:=hle3 h;omega
         ·omega
        exact Ah.weak (ih _ hlt k3 e3 w3 A3 hk3 hp3 g33 g32 v' Q' (rs++[r3]) ho3 dQ' hinv' (fun he=>by have:=hle3 he;simp;omega) (by simp;omega) (SubA.trans hsA hs3) rfl) (by simp only[BW,Ab,Nat.reduceEqDiff,↓reduceIte,reduceCtorEq,Nat.reduceAdd,and_self,and_true]) (SubA.refl _)
       | false=>
        simp only[Bool.false_eq_true,if_false,RS,Cp,List.cons_append,List.nil_append]
        intro ν fr;have nuE:=And.intro (fr.mem (b:=n3) (by simp)) (And.intro (fr.mem (b:=n2) (by simp)) (fr.nu))
        simp (maxDischargeDepth:=16) only[AX,↓AW,simprocAttr,forall_const,nuE,fr.2,CF,d32,m1,m2,m3,m4]
        clear nuE fr
        refine AM.par (Y:=[(n3,_),(n2,_)]) (X:=Q) (Gu rb lp lcap L A2 hp2 k y hy e2 w2 4 ⟨#[41]⟩) (dis2 g23 g22) dPQ (dYQ _ _) ?_
        rintro v D ⟨rfl,hD⟩ dD
        refine⟨_,hD, ?_⟩
        clear hD dD D
        simp only[RS,Cp,List.cons_append,List.nil_append]
        intro ν fr;have nuE:=And.intro (fr.mem (b:=n3) (by simp)) (And.intro (fr.mem (b:=n2) (by simp)) (fr.nu))
        simp (maxDischargeDepth:=16) only[AX,↓AW,simprocAttr,forall_const,nuE,fr.2,CF,d32,m1,m2,m3,m4]
        have hQr:Vm.AA Q rb=none:=dPQ.symm rb (by simp[RS,Vm.AA])
        have hpQ:RsOk rb lp L (A2++Q):=⟨AJ hp2.nr hQr,hp2.hL.mono (SubA.left _ _),hp2.hl,hp2.he⟩
        have hwi:Da e2 (BX y 4 ⟨#[41]⟩) k<L.length:=by
         unfold Da
         split
         ·rename_i h;exact DZ hp2.he hy (by rw[Bu h.2];decide)
         ·exact hk
        refine⟨⟨15,eB,eB,0,p,rs.length,cap⟩,Da e2 (BX y 4 ⟨#[41]⟩) k,EP e2 (BX y 4 ⟨#[41]⟩),D9 e2 w2 (BX y 4 ⟨#[41]⟩) y,A2++Q,rfl,hwi,SubA.trans hsA (SubA.left _ _),hpQ,SubA.fresh (AK d32.2 (A8 (A:=A2++Q) (i:=k) (e:=e2) (w:=w2) (lcap:=lcap) (lp:=lp) (L:=L) (AJ (B:=RS rb lp lcap L k e2 w2 A2) g23 q3))) (SubA.fresh (A8 (A:=A2++Q) (i:=k) (e:=e2) (w:=w2) (lcap:=lcap) (lp:=lp) (L:=L) (AJ (B:=RS rb lp lcap L k e2 w2 A2) g22 q2)) (SubA.refl _)), ?_⟩
        rcases hinv with⟨rfl,hw2,hik2,xs,hlen,hxs,hR⟩|⟨h9,jj,x,h2,h3,h4⟩
        ·have hcm:BX (BR L k) 4 ⟨#[44]⟩=false:=by rw[hly];simpa[E7]using htb
         cases hc:BX y 4 ⟨#[41]⟩with
         |true=>
          refine .inl ⟨rfl,by simpa[D9]using hw2,.mk 15 eB eB 0 xs,by simp only[Da,and_self,if_true];exact hR _ (.inr (.inl ⟨hcm,by rw[hly];exact hc,rfl⟩)), ?_⟩
          rw[hlen]
          exact .mk (rs:=rs) (by have:=hp2.hl;omega) (by omega) hlen (hS.mono (Dis.right (Dis.subr dPQ.symm (CL hp2)).symm)) fun m y s hy hs=>(hxs m y s hy hs).mono (SubA.left _ _)
         |false=>exact .inr ⟨by decide,k,y,by simp only[EP,if_true,Bool.false_eq_true,if_false];exact hR _ (.inr (.inr ⟨hcm,by rw[hly];exact hc,rfl⟩)),hy,rfl⟩
        ·exact .inr ⟨by simp only[EP,if_neg h9];exact h9,jj,x,by simp only[EP,if_neg h9];exact h2,h3,by simp only[D9,if_neg h9];exact h4⟩
     |false=>
      have htk:=CZ rb lp lcap L A' hp' j x hx 0 w' 1 ⟨#[105,110]⟩
      rw[Ky,h5]at htk
      simp only[Bool.false_eq_true,if_false]at htk
      refine AM.ownX (Y:=[(n3,_),(n2,_)]) htk (dis2 g3 g2) ?_
      rintro v D ⟨rfl,hD⟩ dD
      refine⟨_,hD, ?_⟩
      clear hD dD D htk
      simp only[RS,Cp,List.cons_append,List.nil_append]
      intro ν fr;have nuE:=And.intro (fr.mem (b:=n3) (by simp)) (And.intro (fr.mem (b:=n2) (by simp)) (fr.nu))
      simp (maxDischargeDepth:=16) only[AX,↓AW,simprocAttr,forall_const,nuE,fr.2,CF,d32,m1,m2,m3,m4]
      clear nuE fr
      exact⟨r,j,0,w',A',rfl,hj,hs,hp',SubA.fresh (AK d32.2 g3) (SubA.fresh g2 (SubA.refl _)),.inl ⟨rfl,rfl,t,.cmN hq hoc (by unfold W4;rw[hlx,h5]),hr⟩⟩
end Go.Proofs.YtfphceknmgadgaaGreatDoor
