/-
The parser: conjunctions, expressions, sums, operands, comparisons.
Conditions: none.
-/
import Derived.Test.YtfphceknmgadgaaGreatDoorQd
set_option linter.unusedSimpArgs false
set_option linter.unusedVariables false
namespace Go.Proofs.YtfphceknmgadgaaGreatDoor
open Go.Vm
set_option maxHeartbeats 4000000
set_option maxRecDepth 20000
theorem CD:type_of% (An @BC (An @BU (An @BS (An @Aw (An @BB (An @BT (An @Bn (An @BN (An @CA (An @CS (An @B9 (An @CR (An @Cm (An @CT (An @CC (An @Bp (An @Bq (An @CQ (An @Be (An @Br (An @CB (An @Bo @Bx)))))))))))))))))))))):=⟨@BC,@BU,@BS,@Aw,@BB,@BT,@Bn,@BN,@CA,@CS,@B9,@CR,@Cm,@CT,@CC,@Bp,@Bq,@CQ,@Be,@Br,@CB,@Bo,@Bx⟩
theorem eh(x:LR):Hs 1 x=if BX x 1 ⟨#[97,110,100]⟩=true then some 6 else none:=rfl
theorem fm(x:LR):Hs 0 x=if BX x 1 ⟨#[111,114]⟩=true then some 7 else none:=rfl
theorem gA(pb cb:Nat)(lp:Option Addr)(lcap:Nat)(L:List LR)(A:AH)(hp:PsOk pb cb lp L A)(i:Nat)(hi:i<L.length)(hun: ∀k A',i≤k→k<L.length→PsOk pb cb lp L A'→K4 148 2 pb cb lp lcap L A' k):AZ Tryz.prog 133 #[.pointer (some ⟨pb,0,none⟩)] (PS pb cb lp lcap L i A) (K8 L A (Pr L (.lv 1) i)) (fun u_ A_=>fX pb cb lp lcap L A (Pr L (.lv 1) i) u_ A_):=by
 refine Bb ⟨Tryz.prog,133,Tryz.f133,17,[0,2,3],⟨[148,134,135],some (K8 L A (Pr L (.lv 1) i))⟩,[],_⟩ rfl (args:=[_]) Tryz.func133 rfl (by kernel_rfl) Tryz.ntmps133 (by simp) (by kernel_rfl) ?_
 intro ν fr;have nuE:=fr.nu
 have f0:=fr.2 0
 simp only[PS,pB]
 simp (maxDischargeDepth:=16) only[AX,↓AW,simprocAttr,forall_const,nuE,fr.2,CD,hp.ne,hp.en]
 have dst_:True:=(by simp[nuE]);generalize ν 0=n2 at dst_  f0⊢
 clear nuE fr dst_
 refine AZ.to (hun i A (Nat.le_refl _) hi hp) (SubA.fresh f0 (SubA.refl _)) [(n2,_)] (SubA.left [_] _) (Dis.one f0).symm (fun ch D h dD=>⟨D,SubA.left _ _,h.mono (SubA.refl _) fun e j h=>.opE (by decide) (by decide) h⟩) ?_
 rintro v D ⟨t,j,r,A',hq,rfl,hr,hj,hs,hp',hD⟩ dD
 refine⟨_,SubA.front dD hD, ?_⟩
 have g2:Vm.AA (PS pb cb lp lcap L j A') n2=none:=hD.none (dD n2 (by simp[Vm.AA]))
 simp only[PS,pB,List.cons_append,List.nil_append]
 intro ν fr;have nuE:=And.intro (fr.mem (b:=n2) (by simp)) (fr.nu)
 simp only[C5,Ck]
 have f3:Vm.AA ((n2,_)::PS pb cb lp lcap L j A') (ν 0)=none:=fr.2 0
 simp (maxDischargeDepth:=16) only[AX,↓AW,simprocAttr,forall_const,nuE,fr.2,CD]
 have dst_:((ν 0=n2)=False)∧((n2=ν 0)=False):=(by simp[nuE]);generalize ν 0=n3 at dst_  f3⊢
 clear nuE fr dD hD
 have e32:n3≠n2:=fun h=>by rw[h]at f3;simp[Vm.AA]at f3
 have g3:Vm.AA (PS pb cb lp lcap L j A') n3=none:=by simpa[Vm.AA,e32.symm]using f3
 clear f3 f0
 have hq': ∀z,Pr L (.lp 1 t) j z→Pr L (.lv 1) i z:=fun z hz=>.opO (by decide) (by decide) hq hz
 have hij:i≤j:=hq.le
 clear hq
 generalize hm:L.length - j=m
 induction m using Nat.strongRecOn generalizing t j r A' with
 | ind m ih=>
  obtain⟨x,hx,hlx⟩:=Bw hj
  obtain⟨⟨m1,m2⟩,m3,m4⟩:=hp'.far g2
  obtain⟨⟨m5,m6⟩,m7,m8⟩:=hp'.far g3
  refine Ah.intro (by kernel_rfl) ?_
  intro ν fr;have nuE:=And.intro (fr.mem (b:=n3) (by simp)) (And.intro (fr.mem (b:=n2) (by simp)) (fr.nu))
  simp (maxDischargeDepth:=16) only[AX,↓AW,simprocAttr,forall_const,nuE,fr.2,CD,dst_,m1,m2,m3,m4,m5,m6,m7,m8,hp'.ne,hp'.en]
  cases hmk:BX x 1 ⟨#[97,110,100]⟩with
  |true=>
   refine AZ.to (AZ.of (X:=fun _ _=>False) (Ju pb cb lp lcap L A' hp' j x hx _ hmk)) (SubA.fresh (AK (eq_false e32.symm) g3) (SubA.fresh g2 (SubA.refl _))) [(n3,_),(n2,_)] (SubA.left [_,_] _) (dis2 g3 g2) (fun ch D h=>h.elim) ?_
   rintro v D ⟨rfl,hD⟩ dD
   refine⟨_,SubA.front dD hD, ?_⟩
   clear nuE fr
   simp only[List.cons_append,List.nil_append]
   intro ν fr;have nuE:=And.intro (fr.mem (b:=n3) (by simp)) (And.intro (fr.mem (b:=n2) (by simp)) (fr.nu))
   simp (maxDischargeDepth:=16) only[AX,↓AW,simprocAttr,forall_const,nuE,fr.2,CD,dst_,m1,m2,m3,m4,m5,m6,m7,m8,hp'.ne,hp'.en]
   obtain⟨hn1,hn2⟩:=DP hp'.he hx (by rw[Bu hmk];decide)
   have ho:Hs 1 (BR L j)=some 6:=by rw[hlx,eh,hmk];rfl
   rw[hn1]
   refine CO.plan [(0,0),(1,0),(2,0),(3,2),(4,1),(5,2)] [(n3,.cells #[.int .i64 r.op,.string r.nm,.string r.tx,.int .i64 r.n,.slice r.p r.len r.cap] 36)] (SubA.left [_] _) (by kernel_rfl) (by kernel_rfl) (by kernel_rfl) (by kernel_rfl) (by kernel_rfl) (by kernel_rfl) ?_
   clear nuE fr hD dD D
   intro ν fr;have nuE:=And.intro (fr.mem (b:=n3) (by simp)) (And.intro (fr.mem (b:=n2) (by simp)) (fr.nu))
   simp (maxDischargeDepth:=16) only[AX,↓AW,simprocAttr,forall_const,nuE,fr.2,CD,dst_,m1,m2,m3,m4,m5,m6,m7,m8,hp'.ne,hp'.en]
   refine AZ.to (hun (j+1) A' (by omega) hn2 hp') (SubA.fresh (AK (eq_false e32.symm) (Ao g3)) (SubA.fresh (Ao g2) (SubA.refl _))) [(n3,_),(n2,_)] (SubA.left [_,_] _) (dis2 (Ao g3) (Ao g2)) (fun ch D h dD=>⟨D,SubA.left _ _,h.mono hs fun e k h=>hq' _ (.lpE ho h)⟩) ?_
   rintro v D ⟨t2,k,r2,A2,hq2,rfl,hr2,hk,hs2,hp2,hD⟩ dD
   refine⟨_,SubA.front dD hD, ?_⟩
   have g23:Vm.AA (PS pb cb lp lcap L k A2) n3=none:=hD.none (dD n3 (by simp[Vm.AA]))
   have g22:Vm.AA (PS pb cb lp lcap L k A2) n2=none:=hD.none (dD n2 (by simp[Vm.AA,e32]))
   clear nuE fr
   simp only[PS,pB,List.cons_append,List.nil_append,C5,Ck]
   intro ν fr;have nuE:=And.intro (fr.mem (b:=n3) (by simp)) (And.intro (fr.mem (b:=n2) (by simp)) (fr.nu))
   have g5:Vm.AA ((n3,_)::(n2,_)::PS pb cb lp lcap L k A2) (ν 0)=none:=fr.2 0
   simp (maxDischargeDepth:=16) only[AX,↓AW,simprocAttr,forall_const,nuE,fr.2,CD,F5]
   have dst_:((ν 0=n3)=False)∧((ν 0=n2)=False)∧((n3=ν 0)=False)∧((n2=ν 0)=False):=(by simp[nuE]);generalize ν 0=n5 at dst_  g5⊢
   clear nuE fr dD hD D
   refine AZ.of (AM.newX (Du ((n5,.cells #[.int .i64 r.op,.string r.nm,.string r.tx,.int .i64 r.n,.slice r.p r.len r.cap,.int .i64 r2.op,.string r2.nm,.string r2.tx,.int .i64 r2.n,.slice r2.p r2.len r2.cap] 36)::(n3,.cells #[.int .i64 r.op,.string r.nm,.string r.tx,.int .i64 r.n,.slice r.p r.len r.cap] 36)::(n2,.cells #[.int .i64 0,.string ⟨#[]⟩,.string ⟨#[]⟩,.int .i64 0,.slice none 0 0] 36)::PS pb cb lp lcap L k A2) 6 [r,r2] (some ⟨n5,0,none⟩) 2 (FW n5 _ r r2 _) (by simp)) (SubA.refl _) ?_)
   rintro v B ⟨p',c',rfl,hS'⟩ hdB
   have s5:SubA (PS pb cb lp lcap L k A2) ((n5,.cells #[.int .i64 r.op,.string r.nm,.string r.tx,.int .i64 r.n,.slice r.p r.len r.cap,.int .i64 r2.op,.string r2.nm,.string r2.tx,.int .i64 r2.n,.slice r2.p r2.len r2.cap] 36)::(n3,.cells #[.int .i64 r.op,.string r.nm,.string r.tx,.int .i64 r.n,.slice r.p r.len r.cap] 36)::(n2,.cells #[.int .i64 0,.string ⟨#[]⟩,.string ⟨#[]⟩,.int .i64 0,.slice none 0 0] 36)::PS pb cb lp lcap L k A2):=SubA.fresh g5 (SubA.fresh (AK (eq_false e32.symm) g23) (SubA.fresh g22 (SubA.refl _)))
   have hp3:=hp2.app hdB s5
   have hs3:SubA A2 (A2++B):=SubA.left _ _
   have n53:Vm.AA B n3=none:=hdB n3 (by simp[Vm.AA,dst_])
   have n52:Vm.AA B n2=none:=hdB n2 (by simp[Vm.AA,dst_,e32])
   have n55:Vm.AA B n5=none:=hdB n5 (by simp[Vm.AA])
   have gA5:Vm.AA (PS pb cb lp lcap L k A2) n5=none:=(SubA.fresh (AK (eq_false e32.symm) g23) (SubA.fresh g22 (SubA.refl _))).none g5
   have dBA:Dis B A2:=Dis.subr hdB (SubA.trans (show SubA A2 (PS pb cb lp lcap L k A2) from SubA.skip (by simp[Vm.AA,hp2.nc,hp2.ne]) (SubA.skip hp2.np (SubA.refl _))) s5)
   have sM:SubA ((n5,.cells #[.int .i64 r.op,.string r.nm,.string r.tx,.int .i64 r.n,.slice r.p r.len r.cap,.int .i64 r2.op,.string r2.nm,.string r2.tx,.int .i64 r2.n,.slice r2.p r2.len r2.cap] 36)::(n3,.cells #[.int .i64 r.op,.string r.nm,.string r.tx,.int .i64 r.n,.slice r.p r.len r.cap] 36)::(n2,.cells #[.int .i64 0,.string ⟨#[]⟩,.string ⟨#[]⟩,.int .i64 0,.slice none 0 0] 36)::PS pb cb lp lcap L k A2) ((n5,.cells #[.int .i64 r.op,.string r.nm,.string r.tx,.int .i64 r.n,.slice r.p r.len r.cap,.int .i64 r2.op,.string r2.nm,.string r2.tx,.int .i64 r2.n,.slice r2.p r2.len r2.cap] 36)::(n3,.cells #[.int .i64 r.op,.string r.nm,.string r.tx,.int .i64 r.n,.slice r.p r.len r.cap] 36)::(n2,.cells #[.int .i64 0,.string ⟨#[]⟩,.string ⟨#[]⟩,.int .i64 0,.slice none 0 0] 36)::PS pb cb lp lcap L k (A2++B)):=SubA.left _ B
   refine⟨(n5,.cells #[.int .i64 r.op,.string r.nm,.string r.tx,.int .i64 r.n,.slice r.p r.len r.cap,.int .i64 r2.op,.string r2.nm,.string r2.tx,.int .i64 r2.n,.slice r2.p r2.len r2.cap] 36)::(n3,.cells #[.int .i64 r.op,.string r.nm,.string r.tx,.int .i64 r.n,.slice r.p r.len r.cap] 36)::(n2,.cells #[.int .i64 0,.string ⟨#[]⟩,.string ⟨#[]⟩,.int .i64 0,.slice none 0 0] 36)::PS pb cb lp lcap L k (A2++B),SubA.both hdB.right (SubA.left _ _), ?_⟩
   simp only[PS,pB,C5,Ck]at sM⊢
   intro ν fr;have nuE:=And.intro (fr.mem (b:=n5) (by simp)) (And.intro (fr.mem (b:=n3) (by simp)) (And.intro (fr.mem (b:=n2) (by simp)) (fr.nu)))
   simp (maxDischargeDepth:=16) only[AX,↓AW,simprocAttr,forall_const,nuE,fr.2,CD,dst_,eq_true sM]
   have g5':Vm.AA ((n3,Obj.cells #[.int .i64 6,.string ⟨#[]⟩,.string ⟨#[]⟩,.int .i64 0,.slice p' 2 c'] 36)::(n2,.cells #[.int .i64 0,.string ⟨#[]⟩,.string ⟨#[]⟩,.int .i64 0,.slice none 0 0] 36)::PS pb cb lp lcap L k (A2++B)) n5=none:=AK (by simp[dst_]) (AK (by simp[dst_]) (AJ gA5 n55))
   refine Ah.at (SubA.fresh g5' (SubA.refl _)) ?_
   exact Ah.weak (ih (L.length - k) (by have:=hq2.le;omega) (Ee 6 t t2) k ⟨6,eB,eB,0,p',2,c'⟩ (A2++B) (((hr.mono hs2).mono hs3).two (hr2.mono hs3) (hS'.mono dBA.symm.right)) hk (SubA.trans (SubA.trans hs hs2) hs3) hp3 (AJ g22 n52) (AJ g23 n53) (fun z hz=>hq' z (.lpO ho hq2 hz)) (by have:=hq2.le;omega) rfl) (by simp only[BW,Ab,Nat.reduceEqDiff,↓reduceIte,reduceCtorEq,Nat.reduceAdd,and_self,and_true]) (SubA.refl _)
  |false=>
   refine AZ.to (AZ.of (X:=fun _ _=>False) (J2 pb cb lp lcap L A' hp' j x hx _ hmk)) (SubA.fresh (AK (eq_false e32.symm) g3) (SubA.fresh g2 (SubA.refl _))) [(n3,_),(n2,_)] (SubA.left [_,_] _) (dis2 g3 g2) (fun ch D h=>h.elim) ?_
   rintro v D ⟨rfl,hD⟩ dD
   refine⟨_,SubA.front dD hD, ?_⟩
   clear nuE fr
   simp only[List.cons_append,List.nil_append]
   intro ν fr;have nuE:=And.intro (fr.mem (b:=n3) (by simp)) (And.intro (fr.mem (b:=n2) (by simp)) (fr.nu))
   simp (maxDischargeDepth:=16) only[AX,↓AW,simprocAttr,forall_const,nuE,fr.2,CD,dst_,m1,m2,m3,m4,m5,m6,m7,m8,hp'.ne,hp'.en]
   have ho:Hs 1 (BR L j)=none:=by rw[hlx,eh,hmk];rfl
   exact⟨t,j,r,A',hq' _ (.lpN ho),rfl,hr,hj,hs,hp',SubA.fresh (AK (eq_false e32.symm) (Ao g3)) (SubA.fresh (Ao g2) (SubA.refl _))⟩
theorem fp(pb cb:Nat)(lp:Option Addr)(lcap:Nat)(L:List LR)(A:AH)(hp:PsOk pb cb lp L A)(i:Nat)(hi:i<L.length)(hun: ∀k A',i≤k→k<L.length→PsOk pb cb lp L A'→K4 133 1 pb cb lp lcap L A' k):AZ Tryz.prog 111 #[.pointer (some ⟨pb,0,none⟩)] (PS pb cb lp lcap L i A) (K8 L A (Pr L (.lv 0) i)) (fun u_ A_=>fX pb cb lp lcap L A (Pr L (.lv 0) i) u_ A_):=by
 refine Bb ⟨Tryz.prog,111,Tryz.f111,17,[0,2,3],⟨[133,134,135],some (K8 L A (Pr L (.lv 0) i))⟩,[],_⟩ rfl (args:=[_]) Tryz.func111 rfl (by kernel_rfl) Tryz.ntmps111 (by simp) (by kernel_rfl) ?_
 intro ν fr;have nuE:=fr.nu
 have f0:=fr.2 0
 simp only[PS,pB]
 simp (maxDischargeDepth:=16) only[AX,↓AW,simprocAttr,forall_const,nuE,fr.2,CD,hp.ne,hp.en]
 have dst_:True:=(by simp[nuE]);generalize ν 0=n2 at dst_  f0⊢
 clear nuE fr dst_
 refine AZ.to (hun i A (Nat.le_refl _) hi hp) (SubA.fresh f0 (SubA.refl _)) [(n2,_)] (SubA.left [_] _) (Dis.one f0).symm (fun ch D h dD=>⟨D,SubA.left _ _,h.mono (SubA.refl _) fun e j h=>.opE (by decide) (by decide) h⟩) ?_
 rintro v D ⟨t,j,r,A',hq,rfl,hr,hj,hs,hp',hD⟩ dD
 refine⟨_,SubA.front dD hD, ?_⟩
 have g2:Vm.AA (PS pb cb lp lcap L j A') n2=none:=hD.none (dD n2 (by simp[Vm.AA]))
 simp only[PS,pB,List.cons_append,List.nil_append]
 intro ν fr;have nuE:=And.intro (fr.mem (b:=n2) (by simp)) (fr.nu)
 simp only[C5,Ck]
 have f3:Vm.AA ((n2,_)::PS pb cb lp lcap L j A') (ν 0)=none:=fr.2 0
 simp (maxDischargeDepth:=16) only[AX,↓AW,simprocAttr,forall_const,nuE,fr.2,CD]
 have dst_:((ν 0=n2)=False)∧((n2=ν 0)=False):=(by simp[nuE]);generalize ν 0=n3 at dst_  f3⊢
 clear nuE fr dD hD
 have e32:n3≠n2:=fun h=>by rw[h]at f3;simp[Vm.AA]at f3
 have g3:Vm.AA (PS pb cb lp lcap L j A') n3=none:=by simpa[Vm.AA,e32.symm]using f3
 clear f3 f0
 have hq': ∀z,Pr L (.lp 0 t) j z→Pr L (.lv 0) i z:=fun z hz=>.opO (by decide) (by decide) hq hz
 have hij:i≤j:=hq.le
 clear hq
 generalize hm:L.length - j=m
 induction m using Nat.strongRecOn generalizing t j r A' with
 | ind m ih=>
  obtain⟨x,hx,hlx⟩:=Bw hj
  obtain⟨⟨m1,m2⟩,m3,m4⟩:=hp'.far g2
  obtain⟨⟨m5,m6⟩,m7,m8⟩:=hp'.far g3
  refine Ah.intro (by kernel_rfl) ?_
  intro ν fr;have nuE:=And.intro (fr.mem (b:=n3) (by simp)) (And.intro (fr.mem (b:=n2) (by simp)) (fr.nu))
  simp (maxDischargeDepth:=16) only[AX,↓AW,simprocAttr,forall_const,nuE,fr.2,CD,dst_,m1,m2,m3,m4,m5,m6,m7,m8,hp'.ne,hp'.en]
  cases hmk:BX x 1 ⟨#[111,114]⟩with
  |true=>
   refine AZ.to (AZ.of (X:=fun _ _=>False) (Ju pb cb lp lcap L A' hp' j x hx _ hmk)) (SubA.fresh (AK (eq_false e32.symm) g3) (SubA.fresh g2 (SubA.refl _))) [(n3,_),(n2,_)] (SubA.left [_,_] _) (dis2 g3 g2) (fun ch D h=>h.elim) ?_
   rintro v D ⟨rfl,hD⟩ dD
   refine⟨_,SubA.front dD hD, ?_⟩
   clear nuE fr
   simp only[List.cons_append,List.nil_append]
   intro ν fr;have nuE:=And.intro (fr.mem (b:=n3) (by simp)) (And.intro (fr.mem (b:=n2) (by simp)) (fr.nu))
   simp (maxDischargeDepth:=16) only[AX,↓AW,simprocAttr,forall_const,nuE,fr.2,CD,dst_,m1,m2,m3,m4,m5,m6,m7,m8,hp'.ne,hp'.en]
   obtain⟨hn1,hn2⟩:=DP hp'.he hx (by rw[Bu hmk];decide)
   have ho:Hs 0 (BR L j)=some 7:=by rw[hlx,fm,hmk];rfl
   rw[hn1]
   refine CO.plan [(0,0),(1,0),(2,0),(3,2),(4,1),(5,2)] [(n3,.cells #[.int .i64 r.op,.string r.nm,.string r.tx,.int .i64 r.n,.slice r.p r.len r.cap] 36)] (SubA.left [_] _) (by kernel_rfl) (by kernel_rfl) (by kernel_rfl) (by kernel_rfl) (by kernel_rfl) (by kernel_rfl) ?_
   clear nuE fr hD dD D
   intro ν fr;have nuE:=And.intro (fr.mem (b:=n3) (by simp)) (And.intro (fr.mem (b:=n2) (by simp)) (fr.nu))
   simp (maxDischargeDepth:=16) only[AX,↓AW,simprocAttr,forall_const,nuE,fr.2,CD,dst_,m1,m2,m3,m4,m5,m6,m7,m8,hp'.ne,hp'.en]
   refine AZ.to (hun (j+1) A' (by omega) hn2 hp') (SubA.fresh (AK (eq_false e32.symm) (Ao g3)) (SubA.fresh (Ao g2) (SubA.refl _))) [(n3,_),(n2,_)] (SubA.left [_,_] _) (dis2 (Ao g3) (Ao g2)) (fun ch D h dD=>⟨D,SubA.left _ _,h.mono hs fun e k h=>hq' _ (.lpE ho h)⟩) ?_
   rintro v D ⟨t2,k,r2,A2,hq2,rfl,hr2,hk,hs2,hp2,hD⟩ dD
   refine⟨_,SubA.front dD hD, ?_⟩
   have g23:Vm.AA (PS pb cb lp lcap L k A2) n3=none:=hD.none (dD n3 (by simp[Vm.AA]))
   have g22:Vm.AA (PS pb cb lp lcap L k A2) n2=none:=hD.none (dD n2 (by simp[Vm.AA,e32]))
   clear nuE fr
   simp only[PS,pB,List.cons_append,List.nil_append,C5,Ck]
   intro ν fr;have nuE:=And.intro (fr.mem (b:=n3) (by simp)) (And.intro (fr.mem (b:=n2) (by simp)) (fr.nu))
   have g5:Vm.AA ((n3,_)::(n2,_)::PS pb cb lp lcap L k A2) (ν 0)=none:=fr.2 0
   simp (maxDischargeDepth:=16) only[AX,↓AW,simprocAttr,forall_const,nuE,fr.2,CD,F5]
   have dst_:((ν 0=n3)=False)∧((ν 0=n2)=False)∧((n3=ν 0)=False)∧((n2=ν 0)=False):=(by simp[nuE]);generalize ν 0=n5 at dst_  g5⊢
   clear nuE fr dD hD D
   refine AZ.of (AM.newX (Du ((n5,.cells #[.int .i64 r.op,.string r.nm,.string r.tx,.int .i64 r.n,.slice r.p r.len r.cap,.int .i64 r2.op,.string r2.nm,.string r2.tx,.int .i64 r2.n,.slice r2.p r2.len r2.cap] 36)::(n3,.cells #[.int .i64 r.op,.string r.nm,.string r.tx,.int .i64 r.n,.slice r.p r.len r.cap] 36)::(n2,.cells #[.int .i64 0,.string ⟨#[]⟩,.string ⟨#[]⟩,.int .i64 0,.slice none 0 0] 36)::PS pb cb lp lcap L k A2) 7 [r,r2] (some ⟨n5,0,none⟩) 2 (FW n5 _ r r2 _) (by simp)) (SubA.refl _) ?_)
   rintro v B ⟨p',c',rfl,hS'⟩ hdB
   have s5:SubA (PS pb cb lp lcap L k A2) ((n5,.cells #[.int .i64 r.op,.string r.nm,.string r.tx,.int .i64 r.n,.slice r.p r.len r.cap,.int .i64 r2.op,.string r2.nm,.string r2.tx,.int .i64 r2.n,.slice r2.p r2.len r2.cap] 36)::(n3,.cells #[.int .i64 r.op,.string r.nm,.string r.tx,.int .i64 r.n,.slice r.p r.len r.cap] 36)::(n2,.cells #[.int .i64 0,.string ⟨#[]⟩,.string ⟨#[]⟩,.int .i64 0,.slice none 0 0] 36)::PS pb cb lp lcap L k A2):=SubA.fresh g5 (SubA.fresh (AK (eq_false e32.symm) g23) (SubA.fresh g22 (SubA.refl _)))
   have hp3:=hp2.app hdB s5
   have hs3:SubA A2 (A2++B):=SubA.left _ _
   have n53:Vm.AA B n3=none:=hdB n3 (by simp[Vm.AA,dst_])
   have n52:Vm.AA B n2=none:=hdB n2 (by simp[Vm.AA,dst_,e32])
   have n55:Vm.AA B n5=none:=hdB n5 (by simp[Vm.AA])
   have gA5:Vm.AA (PS pb cb lp lcap L k A2) n5=none:=(SubA.fresh (AK (eq_false e32.symm) g23) (SubA.fresh g22 (SubA.refl _))).none g5
   have dBA:Dis B A2:=Dis.subr hdB (SubA.trans (show SubA A2 (PS pb cb lp lcap L k A2) from SubA.skip (by simp[Vm.AA,hp2.nc,hp2.ne]) (SubA.skip hp2.np (SubA.refl _))) s5)
   have sM:SubA ((n5,.cells #[.int .i64 r.op,.string r.nm,.string r.tx,.int .i64 r.n,.slice r.p r.len r.cap,.int .i64 r2.op,.string r2.nm,.string r2.tx,.int .i64 r2.n,.slice r2.p r2.len r2.cap] 36)::(n3,.cells #[.int .i64 r.op,.string r.nm,.string r.tx,.int .i64 r.n,.slice r.p r.len r.cap] 36)::(n2,.cells #[.int .i64 0,.string ⟨#[]⟩,.string ⟨#[]⟩,.int .i64 0,.slice none 0 0] 36)::PS pb cb lp lcap L k A2) ((n5,.cells #[.int .i64 r.op,.string r.nm,.string r.tx,.int .i64 r.n,.slice r.p r.len r.cap,.int .i64 r2.op,.string r2.nm,.string r2.tx,.int .i64 r2.n,.slice r2.p r2.len r2.cap] 36)::(n3,.cells #[.int .i64 r.op,.string r.nm,.string r.tx,.int .i64 r.n,.slice r.p r.len r.cap] 36)::(n2,.cells #[.int .i64 0,.string ⟨#[]⟩,.string ⟨#[]⟩,.int .i64 0,.slice none 0 0] 36)::PS pb cb lp lcap L k (A2++B)):=SubA.left _ B
   refine⟨(n5,.cells #[.int .i64 r.op,.string r.nm,.string r.tx,.int .i64 r.n,.slice r.p r.len r.cap,.int .i64 r2.op,.string r2.nm,.string r2.tx,.int .i64 r2.n,.slice r2.p r2.len r2.cap] 36)::(n3,.cells #[.int .i64 r.op,.string r.nm,.string r.tx,.int .i64 r.n,.slice r.p r.len r.cap] 36)::(n2,.cells #[.int .i64 0,.string ⟨#[]⟩,.string ⟨#[]⟩,.int .i64 0,.slice none 0 0] 36)::PS pb cb lp lcap L k (A2++B),SubA.both hdB.right (SubA.left _ _), ?_⟩
   simp only[PS,pB,C5,Ck]at sM⊢
   intro ν fr;have nuE:=And.intro (fr.mem (b:=n5) (by simp)) (And.intro (fr.mem (b:=n3) (by simp)) (And.intro (fr.mem (b:=n2) (by simp)) (fr.nu)))
   simp (maxDischargeDepth:=16) only[AX,↓AW,simprocAttr,forall_const,nuE,fr.2,CD,dst_,eq_true sM]
   have g5':Vm.AA ((n3,Obj.cells #[.int .i64 7,.string ⟨#[]⟩,.string ⟨#[]⟩,.int .i64 0,.slice p' 2 c'] 36)::(n2,.cells #[.int .i64 0,.string ⟨#[]⟩,.string ⟨#[]⟩,.int .i64 0,.slice none 0 0] 36)::PS pb cb lp lcap L k (A2++B)) n5=none:=AK (by simp[dst_]) (AK (by simp[dst_]) (AJ gA5 n55))
   refine Ah.at (SubA.fresh g5' (SubA.refl _)) ?_
   exact Ah.weak (ih (L.length - k) (by have:=hq2.le;omega) (Ee 7 t t2) k ⟨7,eB,eB,0,p',2,c'⟩ (A2++B) (((hr.mono hs2).mono hs3).two (hr2.mono hs3) (hS'.mono dBA.symm.right)) hk (SubA.trans (SubA.trans hs hs2) hs3) hp3 (AJ g22 n52) (AJ g23 n53) (fun z hz=>hq' z (.lpO ho hq2 hz)) (by have:=hq2.le;omega) rfl) (by simp only[BW,Ab,Nat.reduceEqDiff,↓reduceIte,reduceCtorEq,Nat.reduceAdd,and_self,and_true]) (SubA.refl _)
  |false=>
   refine AZ.to (AZ.of (X:=fun _ _=>False) (J2 pb cb lp lcap L A' hp' j x hx _ hmk)) (SubA.fresh (AK (eq_false e32.symm) g3) (SubA.fresh g2 (SubA.refl _))) [(n3,_),(n2,_)] (SubA.left [_,_] _) (dis2 g3 g2) (fun ch D h=>h.elim) ?_
   rintro v D ⟨rfl,hD⟩ dD
   refine⟨_,SubA.front dD hD, ?_⟩
   clear nuE fr
   simp only[List.cons_append,List.nil_append]
   intro ν fr;have nuE:=And.intro (fr.mem (b:=n3) (by simp)) (And.intro (fr.mem (b:=n2) (by simp)) (fr.nu))
   simp (maxDischargeDepth:=16) only[AX,↓AW,simprocAttr,forall_const,nuE,fr.2,CD,dst_,m1,m2,m3,m4,m5,m6,m7,m8,hp'.ne,hp'.en]
   have ho:Hs 0 (BR L j)=none:=by rw[hlx,fm,hmk];rfl
   exact⟨t,j,r,A',hq' _ (.lpN ho),rfl,hr,hj,hs,hp',SubA.fresh (AK (eq_false e32.symm) (Ao g3)) (SubA.fresh (Ao g2) (SubA.refl _))⟩
end Go.Proofs.YtfphceknmgadgaaGreatDoor
namespace Go.Proofs.YtfphceknmgadgaaGreatDoor
open Go.Vm
set_option maxHeartbeats 4000000
set_option maxRecDepth 20000
theorem XV(x:LR):Hs 3 x=if BX x 4 ⟨#[43]⟩=true then some 12 else if BX x 4 ⟨#[45]⟩=true then some 13 else none:=rfl
theorem oC(pb cb:Nat)(lp:Option Addr)(lcap:Nat)(L:List LR)(A:AH)(hp:PsOk pb cb lp L A)(i:Nat)(hi:i<L.length)(hun: ∀k A',i≤k→k<L.length→PsOk pb cb lp L A'→K4 161 4 pb cb lp lcap L A' k):AZ Tryz.prog 156 #[.pointer (some ⟨pb,0,none⟩)] (PS pb cb lp lcap L i A) (K8 L A (Pr L (.lv 3) i)) (fun u_ A_=>fX pb cb lp lcap L A (Pr L (.lv 3) i) u_ A_):=by
 refine Bb ⟨Tryz.prog,156,Tryz.f156,29,[0,2,3],⟨[161,157,135],some (K8 L A (Pr L (.lv 3) i))⟩,[],_⟩ rfl (args:=[_]) Tryz.func156 rfl (by kernel_rfl) Tryz.ntmps156 (by simp) (by kernel_rfl) ?_
 intro ν fr;have nuE:=fr.nu
 have f0:=fr.2 0
 simp only[PS,pB]
 simp (maxDischargeDepth:=16) only[AX,↓AW,simprocAttr,forall_const,nuE,fr.2,CD,hp.ne,hp.en]
 have dst_:True:=(by simp[nuE]);generalize ν 0=n2 at dst_  f0⊢
 clear nuE fr dst_
 refine AZ.to (hun i A (Nat.le_refl _) hi hp) (SubA.fresh f0 (SubA.refl _)) [(n2,_)] (SubA.left [_] _) (Dis.one f0).symm (fun ch D h dD=>⟨D,SubA.left _ _,h.mono (SubA.refl _) fun e j h=>.opE (by decide) (by decide) h⟩) ?_
 rintro v D ⟨t,j,r,A',hq,rfl,hr,hj,hs,hp',hD⟩ dD
 refine⟨_,SubA.front dD hD, ?_⟩
 have g2:Vm.AA (PS pb cb lp lcap L j A') n2=none:=hD.none (dD n2 (by simp[Vm.AA]))
 simp only[PS,pB,List.cons_append,List.nil_append]
 intro ν fr;have nuE:=And.intro (fr.mem (b:=n2) (by simp)) (fr.nu)
 simp only[C5,Ck]
 have f3:Vm.AA ((n2,_)::PS pb cb lp lcap L j A') (ν 0)=none:=fr.2 0
 simp (maxDischargeDepth:=16) only[AX,↓AW,simprocAttr,forall_const,nuE,fr.2,CD]
 have dst_:((ν 0=n2)=False)∧((n2=ν 0)=False):=(by simp[nuE]);generalize ν 0=n3 at dst_  f3⊢
 clear nuE fr dD hD
 have e32:n3≠n2:=fun h=>by rw[h]at f3;simp[Vm.AA]at f3
 have g3:Vm.AA (PS pb cb lp lcap L j A') n3=none:=by simpa[Vm.AA,e32.symm]using f3
 clear f3 f0
 have hq': ∀z,Pr L (.lp 3 t) j z→Pr L (.lv 3) i z:=fun z hz=>.opO (by decide) (by decide) hq hz
 have hij:i≤j:=hq.le
 clear hq
 generalize hm:L.length - j=m
 induction m using Nat.strongRecOn generalizing t j r A' with
 | ind m ih=>
  obtain⟨x,hx,hlx⟩:=Bw hj
  obtain⟨⟨m1,m2⟩,m3,m4⟩:=hp'.far g2
  obtain⟨⟨m5,m6⟩,m7,m8⟩:=hp'.far g3
  refine Ah.intro (by kernel_rfl) ?_
  intro ν fr;have nuE:=And.intro (fr.mem (b:=n3) (by simp)) (And.intro (fr.mem (b:=n2) (by simp)) (fr.nu))
  simp (maxDischargeDepth:=16) only[AX,↓AW,simprocAttr,forall_const,nuE,fr.2,CD,dst_,m1,m2,m3,m4,m5,m6,m7,m8,hp'.ne,hp'.en]
  cases hmk:BX x 4 ⟨#[43]⟩with
  |true=>
   refine AZ.to (AZ.of (X:=fun _ _=>False) (FV pb cb lp lcap L A' hp' j x hx _ hmk)) (SubA.fresh (AK (eq_false e32.symm) g3) (SubA.fresh g2 (SubA.refl _))) [(n3,_),(n2,_)] (SubA.left [_,_] _) (dis2 g3 g2) (fun ch D h=>h.elim) ?_
   rintro v D ⟨rfl,hD⟩ dD
   refine⟨_,SubA.front dD hD, ?_⟩
   clear nuE fr
   simp only[List.cons_append,List.nil_append]
   intro ν fr;have nuE:=And.intro (fr.mem (b:=n3) (by simp)) (And.intro (fr.mem (b:=n2) (by simp)) (fr.nu))
   simp (maxDischargeDepth:=16) only[AX,↓AW,simprocAttr,forall_const,nuE,fr.2,CD,dst_,m1,m2,m3,m4,m5,m6,m7,m8,hp'.ne,hp'.en]
   obtain⟨hn1,hn2⟩:=DP hp'.he hx (by rw[Bu hmk];decide)
   have ho:Hs 3 (BR L j)=some 12:=by rw[hlx,XV,hmk];rfl
   rw[hn1]
   refine CO.plan [(0,0),(1,0),(2,0),(3,2),(4,1),(5,2)] [(n3,.cells #[.int .i64 r.op,.string r.nm,.string r.tx,.int .i64 r.n,.slice r.p r.len r.cap] 36)] (SubA.left [_] _) (by kernel_rfl) (by kernel_rfl) (by kernel_rfl) (by kernel_rfl) (by kernel_rfl) (by kernel_rfl) ?_
   clear nuE fr hD dD D
   intro ν fr;have nuE:=And.intro (fr.mem (b:=n3) (by simp)) (And.intro (fr.mem (b:=n2) (by simp)) (fr.nu))
   simp (maxDischargeDepth:=16) only[AX,↓AW,simprocAttr,forall_const,nuE,fr.2,CD,dst_,m1,m2,m3,m4,m5,m6,m7,m8,hp'.ne,hp'.en]
   refine AZ.to (hun (j+1) A' (by omega) hn2 hp') (SubA.fresh (AK (eq_false e32.symm) (Ao g3)) (SubA.fresh (Ao g2) (SubA.refl _))) [(n3,_),(n2,_)] (SubA.left [_,_] _) (dis2 (Ao g3) (Ao g2)) (fun ch D h dD=>⟨D,SubA.left _ _,h.mono hs fun e k h=>hq' _ (.lpE ho h)⟩) ?_
   rintro v D ⟨t2,k,r2,A2,hq2,rfl,hr2,hk,hs2,hp2,hD⟩ dD
   refine⟨_,SubA.front dD hD, ?_⟩
   have g23:Vm.AA (PS pb cb lp lcap L k A2) n3=none:=hD.none (dD n3 (by simp[Vm.AA]))
   have g22:Vm.AA (PS pb cb lp lcap L k A2) n2=none:=hD.none (dD n2 (by simp[Vm.AA,e32]))
   clear nuE fr
   simp only[PS,pB,List.cons_append,List.nil_append,C5,Ck]
   intro ν fr;have nuE:=And.intro (fr.mem (b:=n3) (by simp)) (And.intro (fr.mem (b:=n2) (by simp)) (fr.nu))
   have g5:Vm.AA ((n3,_)::(n2,_)::PS pb cb lp lcap L k A2) (ν 0)=none:=fr.2 0
   simp (maxDischargeDepth:=16) only[AX,↓AW,simprocAttr,forall_const,nuE,fr.2,CD,F5]
   have dst_:((ν 0=n3)=False)∧((ν 0=n2)=False)∧((n3=ν 0)=False)∧((n2=ν 0)=False):=(by simp[nuE]);generalize ν 0=n5 at dst_  g5⊢
   clear nuE fr dD hD D
   refine AZ.of (AM.newX (Du ((n5,.cells #[.int .i64 r.op,.string r.nm,.string r.tx,.int .i64 r.n,.slice r.p r.len r.cap,.int .i64 r2.op,.string r2.nm,.string r2.tx,.int .i64 r2.n,.slice r2.p r2.len r2.cap] 36)::(n3,.cells #[.int .i64 r.op,.string r.nm,.string r.tx,.int .i64 r.n,.slice r.p r.len r.cap] 36)::(n2,.cells #[.int .i64 0,.string ⟨#[]⟩,.string ⟨#[]⟩,.int .i64 0,.slice none 0 0] 36)::PS pb cb lp lcap L k A2) 12 [r,r2] (some ⟨n5,0,none⟩) 2 (FW n5 _ r r2 _) (by simp)) (SubA.refl _) ?_)
   rintro v B ⟨p',c',rfl,hS'⟩ hdB
   have s5:SubA (PS pb cb lp lcap L k A2) ((n5,.cells #[.int .i64 r.op,.string r.nm,.string r.tx,.int .i64 r.n,.slice r.p r.len r.cap,.int .i64 r2.op,.string r2.nm,.string r2.tx,.int .i64 r2.n,.slice r2.p r2.len r2.cap] 36)::(n3,.cells #[.int .i64 r.op,.string r.nm,.string r.tx,.int .i64 r.n,.slice r.p r.len r.cap] 36)::(n2,.cells #[.int .i64 0,.string ⟨#[]⟩,.string ⟨#[]⟩,.int .i64 0,.slice none 0 0] 36)::PS pb cb lp lcap L k A2):=SubA.fresh g5 (SubA.fresh (AK (eq_false e32.symm) g23) (SubA.fresh g22 (SubA.refl _)))
   have hp3:=hp2.app hdB s5
   have hs3:SubA A2 (A2++B):=SubA.left _ _
   have n53:Vm.AA B n3=none:=hdB n3 (by simp[Vm.AA,dst_])
   have n52:Vm.AA B n2=none:=hdB n2 (by simp[Vm.AA,dst_,e32])
   have n55:Vm.AA B n5=none:=hdB n5 (by simp[Vm.AA])
   have gA5:Vm.AA (PS pb cb lp lcap L k A2) n5=none:=(SubA.fresh (AK (eq_false e32.symm) g23) (SubA.fresh g22 (SubA.refl _))).none g5
   have dBA:Dis B A2:=Dis.subr hdB (SubA.trans (show SubA A2 (PS pb cb lp lcap L k A2) from SubA.skip (by simp[Vm.AA,hp2.nc,hp2.ne]) (SubA.skip hp2.np (SubA.refl _))) s5)
   have sM:SubA ((n5,.cells #[.int .i64 r.op,.string r.nm,.string r.tx,.int .i64 r.n,.slice r.p r.len r.cap,.int .i64 r2.op,.string r2.nm,.string r2.tx,.int .i64 r2.n,.slice r2.p r2.len r2.cap] 36)::(n3,.cells #[.int .i64 r.op,.string r.nm,.string r.tx,.int .i64 r.n,.slice r.p r.len r.cap] 36)::(n2,.cells #[.int .i64 0,.string ⟨#[]⟩,.string ⟨#[]⟩,.int .i64 0,.slice none 0 0] 36)::PS pb cb lp lcap L k A2) ((n5,.cells #[.int .i64 r.op,.string r.nm,.string r.tx,.int .i64 r.n,.slice r.p r.len r.cap,.int .i64 r2.op,.string r2.nm,.string r2.tx,.int .i64 r2.n,.slice r2.p r2.len r2.cap] 36)::(n3,.cells #[.int .i64 r.op,.string r.nm,.string r.tx,.int .i64 r.n,.slice r.p r.len r.cap] 36)::(n2,.cells #[.int .i64 0,.string ⟨#[]⟩,.string ⟨#[]⟩,.int .i64 0,.slice none 0 0] 36)::PS pb cb lp lcap L k (A2++B)):=SubA.left _ B
   refine⟨(n5,.cells #[.int .i64 r.op,.string r.nm,.string r.tx,.int .i64 r.n,.slice r.p r.len r.cap,.int .i64 r2.op,.string r2.nm,.string r2.tx,.int .i64 r2.n,.slice r2.p r2.len r2.cap] 36)::(n3,.cells #[.int .i64 r.op,.string r.nm,.string r.tx,.int .i64 r.n,.slice r.p r.len r.cap] 36)::(n2,.cells #[.int .i64 0,.string ⟨#[]⟩,.string ⟨#[]⟩,.int .i64 0,.slice none 0 0] 36)::PS pb cb lp lcap L k (A2++B),SubA.both hdB.right (SubA.left _ _), ?_⟩
   simp only[PS,pB,C5,Ck]at sM⊢
   intro ν fr;have nuE:=And.intro (fr.mem (b:=n5) (by simp)) (And.intro (fr.mem (b:=n3) (by simp)) (And.intro (fr.mem (b:=n2) (by simp)) (fr.nu)))
   simp (maxDischargeDepth:=16) only[AX,↓AW,simprocAttr,forall_const,nuE,fr.2,CD,dst_,eq_true sM]
   have g5':Vm.AA ((n3,Obj.cells #[.int .i64 12,.string ⟨#[]⟩,.string ⟨#[]⟩,.int .i64 0,.slice p' 2 c'] 36)::(n2,.cells #[.int .i64 0,.string ⟨#[]⟩,.string ⟨#[]⟩,.int .i64 0,.slice none 0 0] 36)::PS pb cb lp lcap L k (A2++B)) n5=none:=AK (by simp[dst_]) (AK (by simp[dst_]) (AJ gA5 n55))
   refine Ah.at (SubA.fresh g5' (SubA.refl _)) ?_
   exact Ah.weak (ih (L.length - k) (by have:=hq2.le;omega) (Ee 12 t t2) k ⟨12,eB,eB,0,p',2,c'⟩ (A2++B) (((hr.mono hs2).mono hs3).two (hr2.mono hs3) (hS'.mono dBA.symm.right)) hk (SubA.trans (SubA.trans hs hs2) hs3) hp3 (AJ g22 n52) (AJ g23 n53) (fun z hz=>hq' z (.lpO ho hq2 hz)) (by have:=hq2.le;omega) rfl) (by simp only[BW,Ab,Nat.reduceEqDiff,↓reduceIte,reduceCtorEq,Nat.reduceAdd,and_self,and_true]) (SubA.refl _)
  | false=>
   refine AZ.to (AZ.of (X:=fun _ _=>False) (FU pb cb lp lcap L A' hp' j x hx _ hmk)) (SubA.fresh (AK (eq_false e32.symm) g3) (SubA.fresh g2 (SubA.refl _))) [(n3,_),(n2,_)] (SubA.left [_,_] _) (dis2 g3 g2) (fun ch D h=>h.elim) ?_
   rintro v D ⟨rfl,hD⟩ dD
   refine⟨_,SubA.front dD hD, ?_⟩
   clear nuE fr
   simp only[List.cons_append,List.nil_append]
   intro ν fr;have nuE:=And.intro (fr.mem (b:=n3) (by simp)) (And.intro (fr.mem (b:=n2) (by simp)) (fr.nu))
   simp (maxDischargeDepth:=16) only[AX,↓AW,simprocAttr,forall_const,nuE,fr.2,CD,dst_,m1,m2,m3,m4,m5,m6,m7,m8,hp'.ne,hp'.en]
   clear hD dD D
   cases hml:BX x 4 ⟨#[45]⟩with
   |true=>
    refine AZ.to (AZ.of (X:=fun _ _=>False) (FV pb cb lp lcap L A' hp' j x hx _ hml)) (SubA.fresh (AK (eq_false e32.symm) g3) (SubA.fresh g2 (SubA.refl _))) [(n3,_),(n2,_)] (SubA.left [_,_] _) (dis2 g3 g2) (fun ch D h=>h.elim) ?_
    rintro v D ⟨rfl,hD⟩ dD
    refine⟨_,SubA.front dD hD, ?_⟩
    clear nuE fr
    simp only[List.cons_append,List.nil_append]
    intro ν fr;have nuE:=And.intro (fr.mem (b:=n3) (by simp)) (And.intro (fr.mem (b:=n2) (by simp)) (fr.nu))
    simp (maxDischargeDepth:=16) only[AX,↓AW,simprocAttr,forall_const,nuE,fr.2,CD,dst_,m1,m2,m3,m4,m5,m6,m7,m8,hp'.ne,hp'.en]
    obtain⟨hn1,hn2⟩:=DP hp'.he hx (by rw[Bu hml];decide)
    have ho:Hs 3 (BR L j)=some 13:=by rw[hlx,XV,hmk,hml];rfl
    rw[hn1]
    refine CO.plan [(0,0),(1,0),(2,0),(3,2),(4,1),(5,2)] [(n3,.cells #[.int .i64 r.op,.string r.nm,.string r.tx,.int .i64 r.n,.slice r.p r.len r.cap] 36)] (SubA.left [_] _) (by kernel_rfl) (by kernel_rfl) (by kernel_rfl) (by kernel_rfl) (by kernel_rfl) (by kernel_rfl) ?_
    clear nuE fr hD dD D
    intro ν fr;have nuE:=And.intro (fr.mem (b:=n3) (by simp)) (And.intro (fr.mem (b:=n2) (by simp)) (fr.nu))
    simp (maxDischargeDepth:=16) only[AX,↓AW,simprocAttr,forall_const,nuE,fr.2,CD,dst_,m1,m2,m3,m4,m5,m6,m7,m8,hp'.ne,hp'.en]
    refine AZ.to (hun (j+1) A' (by omega) hn2 hp') (SubA.fresh (AK (eq_false e32.symm) (Ao g3)) (SubA.fresh (Ao g2) (SubA.refl _))) [(n3,_),(n2,_)] (SubA.left [_,_] _) (dis2 (Ao g3) (Ao g2)) (fun ch D h dD=>⟨D,SubA.left _ _,h.mono hs fun e k h=>hq' _ (.lpE ho h)⟩) ?_
    rintro v D ⟨t2,k,r2,A2,hq2,rfl,hr2,hk,hs2,hp2,hD⟩ dD
    refine⟨_,SubA.front dD hD, ?_⟩
    have g23:Vm.AA (PS pb cb lp lcap L k A2) n3=none:=hD.none (dD n3 (by simp[Vm.AA]))
    have g22:Vm.AA (PS pb cb lp lcap L k A2) n2=none:=hD.none (dD n2 (by simp[Vm.AA,e32]))
    clear nuE fr
    simp only[PS,pB,List.cons_append,List.nil_append,C5,Ck]
    intro ν fr;have nuE:=And.intro (fr.mem (b:=n3) (by simp)) (And.intro (fr.mem (b:=n2) (by simp)) (fr.nu))
    have g5:Vm.AA ((n3,_)::(n2,_)::PS pb cb lp lcap L k A2) (ν 0)=none:=fr.2 0
    simp (maxDischargeDepth:=16) only[AX,↓AW,simprocAttr,forall_const,nuE,fr.2,CD,F5]
    have dst_:((ν 0=n3)=False)∧((ν 0=n2)=False)∧((n3=ν 0)=False)∧((n2=ν 0)=False):=(by simp[nuE]);generalize ν 0=n5 at dst_  g5⊢
    clear nuE fr dD hD D
    refine AZ.of (AM.newX (Du ((n5,.cells #[.int .i64 r.op,.string r.nm,.string r.tx,.int .i64 r.n,.slice r.p r.len r.cap,.int .i64 r2.op,.string r2.nm,.string r2.tx,.int .i64 r2.n,.slice r2.p r2.len r2.cap] 36)::(n3,.cells #[.int .i64 r.op,.string r.nm,.string r.tx,.int .i64 r.n,.slice r.p r.len r.cap] 36)::(n2,.cells #[.int .i64 0,.string ⟨#[]⟩,.string ⟨#[]⟩,.int .i64 0,.slice none 0 0] 36)::PS pb cb lp lcap L k A2) 13 [r,r2] (some ⟨n5,0,none⟩) 2 (FW n5 _ r r2 _) (by simp)) (SubA.refl _) ?_)
    rintro v B ⟨p',c',rfl,hS'⟩ hdB
    have s5:SubA (PS pb cb lp lcap L k A2) ((n5,.cells #[.int .i64 r.op,.string r.nm,.string r.tx,.int .i64 r.n,.slice r.p r.len r.cap,.int .i64 r2.op,.string r2.nm,.string r2.tx,.int .i64 r2.n,.slice r2.p r2.len r2.cap] 36)::(n3,.cells #[.int .i64 r.op,.string r.nm,.string r.tx,.int .i64 r.n,.slice r.p r.len r.cap] 36)::(n2,.cells #[.int .i64 0,.string ⟨#[]⟩,.string ⟨#[]⟩,.int .i64 0,.slice none 0 0] 36)::PS pb cb lp lcap L k A2):=SubA.fresh g5 (SubA.fresh (AK (eq_false e32.symm) g23) (SubA.fresh g22 (SubA.refl _)))
    have hp3:=hp2.app hdB s5
    have hs3:SubA A2 (A2++B):=SubA.left _ _
    have n53:Vm.AA B n3=none:=hdB n3 (by simp[Vm.AA,dst_])
    have n52:Vm.AA B n2=none:=hdB n2 (by simp[Vm.AA,dst_,e32])
    have n55:Vm.AA B n5=none:=hdB n5 (by simp[Vm.AA])
    have gA5:Vm.AA (PS pb cb lp lcap L k A2) n5=none:=(SubA.fresh (AK (eq_false e32.symm) g23) (SubA.fresh g22 (SubA.refl _))).none g5
    have dBA:Dis B A2:=Dis.subr hdB (SubA.trans (show SubA A2 (PS pb cb lp lcap L k A2) from SubA.skip (by simp[Vm.AA,hp2.nc,hp2.ne]) (SubA.skip hp2.np (SubA.refl _))) s5)
    have sM:SubA ((n5,.cells #[.int .i64 r.op,.string r.nm,.string r.tx,.int .i64 r.n,.slice r.p r.len r.cap,.int .i64 r2.op,.string r2.nm,.string r2.tx,.int .i64 r2.n,.slice r2.p r2.len r2.cap] 36)::(n3,.cells #[.int .i64 r.op,.string r.nm,.string r.tx,.int .i64 r.n,.slice r.p r.len r.cap] 36)::(n2,.cells #[.int .i64 0,.string ⟨#[]⟩,.string ⟨#[]⟩,.int .i64 0,.slice none 0 0] 36)::PS pb cb lp lcap L k A2) ((n5,.cells #[.int .i64 r.op,.string r.nm,.string r.tx,.int .i64 r.n,.slice r.p r.len r.cap,.int .i64 r2.op,.string r2.nm,.string r2.tx,.int .i64 r2.n,.slice r2.p r2.len r2.cap] 36)::(n3,.cells #[.int .i64 r.op,.string r.nm,.string r.tx,.int .i64 r.n,.slice r.p r.len r.cap] 36)::(n2,.cells #[.int .i64 0,.string ⟨#[]⟩,.string ⟨#[]⟩,.int .i64 0,.slice none 0 0] 36)::PS pb cb lp lcap L k (A2++B)):=SubA.left _ B
    refine⟨(n5,.cells #[.int .i64 r.op,.string r.nm,.string r.tx,.int .i64 r.n,.slice r.p r.len r.cap,.int .i64 r2.op,.string r2.nm,.string r2.tx,.int .i64 r2.n,.slice r2.p r2.len r2.cap] 36)::(n3,.cells #[.int .i64 r.op,.string r.nm,.string r.tx,.int .i64 r.n,.slice r.p r.len r.cap] 36)::(n2,.cells #[.int .i64 0,.string ⟨#[]⟩,.string ⟨#[]⟩,.int .i64 0,.slice none 0 0] 36)::PS pb cb lp lcap L k (A2++B),SubA.both hdB.right (SubA.left _ _), ?_⟩
    simp only[PS,pB,C5,Ck]at sM⊢
    intro ν fr;have nuE:=And.intro (fr.mem (b:=n5) (by simp)) (And.intro (fr.mem (b:=n3) (by simp)) (And.intro (fr.mem (b:=n2) (by simp)) (fr.nu)))
    simp (maxDischargeDepth:=16) only[AX,↓AW,simprocAttr,forall_const,nuE,fr.2,CD,dst_,eq_true sM]
    have g5':Vm.AA ((n3,Obj.cells #[.int .i64 13,.string ⟨#[]⟩,.string ⟨#[]⟩,.int .i64 0,.slice p' 2 c'] 36)::(n2,.cells #[.int .i64 0,.string ⟨#[]⟩,.string ⟨#[]⟩,.int .i64 0,.slice none 0 0] 36)::PS pb cb lp lcap L k (A2++B)) n5=none:=AK (by simp[dst_]) (AK (by simp[dst_]) (AJ gA5 n55))
    refine Ah.at (SubA.fresh g5' (SubA.refl _)) ?_
    exact Ah.weak (ih (L.length - k) (by have:=hq2.le;omega) (Ee 13 t t2) k ⟨13,eB,eB,0,p',2,c'⟩ (A2++B) (((hr.mono hs2).mono hs3).two (hr2.mono hs3) (hS'.mono dBA.symm.right)) hk (SubA.trans (SubA.trans hs hs2) hs3) hp3 (AJ g22 n52) (AJ g23 n53) (fun z hz=>hq' z (.lpO ho hq2 hz)) (by have:=hq2.le;omega) rfl) (by simp only[BW,Ab,Nat.reduceEqDiff,↓reduceIte,reduceCtorEq,Nat.reduceAdd,and_self,and_true]) (SubA.refl _)
   |false=>
    refine AZ.to (AZ.of (X:=fun _ _=>False) (FU pb cb lp lcap L A' hp' j x hx _ hml)) (SubA.fresh (AK (eq_false e32.symm) g3) (SubA.fresh g2 (SubA.refl _))) [(n3,_),(n2,_)] (SubA.left [_,_] _) (dis2 g3 g2) (fun ch D h=>h.elim) ?_
    rintro v D ⟨rfl,hD⟩ dD
    refine⟨_,SubA.front dD hD, ?_⟩
    clear nuE fr
    simp only[List.cons_append,List.nil_append]
    intro ν fr;have nuE:=And.intro (fr.mem (b:=n3) (by simp)) (And.intro (fr.mem (b:=n2) (by simp)) (fr.nu))
    simp (maxDischargeDepth:=16) only[AX,↓AW,simprocAttr,forall_const,nuE,fr.2,CD,dst_,m1,m2,m3,m4,m5,m6,m7,m8,hp'.ne,hp'.en]
    have ho:Hs 3 (BR L j)=none:=by rw[hlx,XV,hmk,hml];rfl
    exact⟨t,j,r,A',hq' _ (.lpN ho),rfl,hr,hj,hs,hp',SubA.fresh (AK (eq_false e32.symm) (Ao g3)) (SubA.fresh (Ao g2) (SubA.refl _))⟩
end Go.Proofs.YtfphceknmgadgaaGreatDoor
namespace Go.Vm
theorem AZ.own{P:Program}{g:FuncId}{args:Array Value}{E Y:AH}{X0 X:List PanicEntry→AH→Prop}{K0 K:Value→AH→Prop}(hc:AZ P g args E X0 K0)(hd:Dis E Y)
  (hx: ∀ch D,X0 ch D→X ch (D++Y)) (hk: ∀v D,K0 v D→Dis D Y→ ∃F,SubA F D∧K v (Y++F)):AZ P g args (Y++E) X K:=
 AZ.to hc hd.symm.right Y (SubA.left _ _) hd (fun ch D h dD=>⟨_,SubA.refl _,hx ch D h⟩) fun v D h dD=>by
  obtain⟨F,h1,h2⟩:=hk v D h dD
  exact⟨_,SubA.front dD h1,h2⟩
end Go.Vm
namespace Go.Proofs.YtfphceknmgadgaaGreatDoor
open Go.Vm
set_option maxHeartbeats 4000000
set_option maxRecDepth 20000
def fd(L:List LR)(A:AH)(i:Nat)(ch:List PanicEntry)(D:AH):Prop:= ∃e j nm n x,e≠0∧GK L i=(e,j,nm,n)∧L[j]? =some x∧ch=YE e (x.a:Int)∧SubA A D
theorem FH{pb cb:Nat}{lp:Option Addr}{lcap j:Nat}{L:List LR}{A:AH}(hp:PsOk pb cb lp L A):SubA A (PS pb cb lp lcap L j A):=SubA.skip (by simp[Vm.AA,hp.nc,hp.ne]) (SubA.skip hp.np (SubA.refl _))
theorem fd.of{pb cb:Nat}{lp:Option Addr}{lcap j i:Nat}{L:List LR}{A Y:AH}(hp:PsOk pb cb lp L A){ch:List PanicEntry}{D:AH}{nm:ByteArray}{n:Int}(h:Er pb cb lp lcap L A 2 j ch D)(hu:GK L i=(2,j,nm,n)):fd L A i ch (D++Y):=by
 obtain⟨x,h1,h2,h3⟩:=h
 exact⟨2,j,nm,n,x,by decide,hu,h1,h2,SubA.trans (SubA.trans (FH hp) h3) (SubA.left _ _)⟩
theorem Wc{x:LR}(h:FA x=true):x.k≠0:=by simp[FA]at h;omega
theorem gV{x:LR}{m:Int}(h:F9 x m=true):x.k≠0:=by simp[F9]at h;omega
theorem Wl(pb cb:Nat)(lp:Option Addr)(lcap:Nat)(L:List LR)(A:AH)(hp:PsOk pb cb lp L A)(i:Nat)(hi:i<L.length)(op:Int):AZ Tryz.prog 167 #[.pointer (some ⟨pb,0,none⟩),.int .i64 op] (PS pb cb lp lcap L i A) (fd L A i) (fun u_ A_=> ∃j nm n,GK L i=(0,j,nm,n)∧u_=C5 ⟨op,nm,eB,n,none,0,0⟩∧j<L.length∧SubA (PS pb cb lp lcap L j A) A_):=by
 refine Bb ⟨Tryz.prog,167,Tryz.f167,20,[0,1,4,5],⟨[162,168,170],some (fd L A i)⟩,[],_⟩ rfl (args:=[_,_]) Tryz.func167 rfl (by kernel_rfl) Tryz.ntmps167 (by simp) (by kernel_rfl) ?_
 intro ν fr;have nuE:=fr.nu
 have f0:=fr.2 0
 obtain⟨x0,hx0,e0⟩:=Bw hi
 simp (maxDischargeDepth:=16) only[AX,↓AW,simprocAttr,forall_const,nuE,fr.2,CD]
 have dst_:True:=(by simp[nuE]);generalize ν 0=n2 at dst_  f0⊢
 clear nuE fr dst_
 refine AZ.own (Y:=[(n2,_)]) (Gs pb cb lp lcap L A hp i x0 hx0 _) (Dis.one f0).symm (fun ch D ⟨h1,h2⟩=>fd.of hp h2 (nm:=eB) (n:=0) (by unfold GK;rw[e0,h1];rfl)) ?_
 rintro v D ⟨h0,hD⟩ dD
 refine⟨_,hD, ?_⟩
 obtain⟨q1,q2⟩:=DP hp.he hx0 (by rw[Bu h0];decide)
 rw[q1]
 clear hD dD D
 obtain⟨x1,hx1,e1⟩:=Bw q2
 intro ν fr;have nuE:=And.intro (fr.mem (b:=n2) (by simp)) (fr.nu)
 simp (maxDischargeDepth:=16) only[AX,↓AW,simprocAttr,forall_const,nuE,fr.2,CD]
 clear nuE fr
 refine AZ.own (Y:=[(n2,_)]) (XM pb cb lp lcap L A hp (i+1) x1 hx1) (Dis.one (Ao f0)).symm (fun ch D ⟨h1,h2⟩=>fd.of hp h2 (nm:=eB) (n:=0) (by unfold GK;rw[e0,e1,h0,h1];rfl)) ?_
 rintro v D ⟨h1,rfl,hD⟩ dD
 refine⟨_,hD, ?_⟩
 obtain⟨q3,q4⟩:=DP hp.he hx1 (Wc h1)
 rw[q3]
 clear hD dD D
 obtain⟨x2,hx2,e2⟩:=Bw q4
 intro ν fr;have nuE:=And.intro (fr.mem (b:=n2) (by simp)) (fr.nu)
 have f5:Vm.AA ((n2,_)::PS pb cb lp lcap L (i+1+1) A) (ν 0)=none:=fr.2 0
 simp (maxDischargeDepth:=16) only[AX,↓AW,simprocAttr,forall_const,nuE,fr.2,CD]
 have dst_:((ν 0=n2)=False)∧((n2=ν 0)=False):=(by simp[nuE]);generalize ν 0=n5 at dst_  f5⊢
 clear nuE fr
 have e52:n5≠n2:=fun h=>by rw[h]at f5;simp[Vm.AA]at f5
 have g5:Vm.AA (PS pb cb lp lcap L (i+1+1) A) n5=none:=by simpa[Vm.AA,e52.symm]using f5
 clear f5
 refine AZ.own (Y:=[(n5,_),(n2,_)]) (Gs pb cb lp lcap L A hp (i+1+1) x2 hx2 _) (dis2 g5 (Ao f0)) (fun ch D ⟨h2,h3⟩=>fd.of hp h3 (nm:=eB) (n:=0) (by unfold GK;rw[e0,e1,h0,h1,show i+2=i+1+1 from rfl,e2,h2];rfl)) ?_
 rintro v D ⟨h2,hD⟩ dD
 refine⟨_,hD, ?_⟩
 obtain⟨q5,q6⟩:=DP hp.he hx2 (by rw[Bu h2];decide)
 rw[q5]
 clear hD dD D
 obtain⟨x3,hx3,e3⟩:=Bw q6
 intro ν fr;have nuE:=And.intro (fr.mem (b:=n5) (by simp)) (And.intro (fr.mem (b:=n2) (by simp)) (fr.nu))
 simp (maxDischargeDepth:=16) only[AX,↓AW,simprocAttr,forall_const,nuE,fr.2,CD,dst_]
 clear nuE fr
 refine AZ.own (Y:=[(n5,_),(n2,_)]) (nb pb cb lp lcap L A hp (i+1+1+1) x3 hx3 _) (dis2 (Ao g5) (Ao f0)) (fun ch D ⟨h3,h4⟩=>fd.of hp h4 (nm:=eB) (n:=0) (by unfold GK;rw[e0,e1,h0,h1,show i+2=i+1+1 from rfl,e2,h2,show i+3=i+1+1+1 from rfl,e3,h3];rfl)) ?_
 rintro v D ⟨h3,rfl,hD⟩ dD
 refine⟨_,hD, ?_⟩
 obtain⟨q7,q8⟩:=DP hp.he hx3 (gV h3)
 rw[q7]
 clear hD dD D
 obtain⟨x4,hx4,e4⟩:=Bw q8
 intro ν fr;have nuE:=And.intro (fr.mem (b:=n5) (by simp)) (And.intro (fr.mem (b:=n2) (by simp)) (fr.nu))
 simp (maxDischargeDepth:=16) only[AX,↓AW,simprocAttr,forall_const,nuE,fr.2,CD,dst_]
 clear nuE fr
 refine AZ.own (Y:=[(n5,_),(n2,_)]) (Gs pb cb lp lcap L A hp (i+1+1+1+1) x4 hx4 _) (dis2 (Ao g5) (Ao f0)) (fun ch D ⟨h4,h5⟩=>fd.of hp h5 (nm:=eB) (n:=0) (by unfold GK;rw[e0,e1,h0,h1,show i+2=i+1+1 from rfl,e2,h2,show i+3=i+1+1+1 from rfl,e3,h3,show i+4=i+1+1+1+1 from rfl,e4,h4];rfl)) ?_
 rintro v D ⟨h4,hD⟩ dD
 refine⟨_,hD, ?_⟩
 obtain⟨q9,q10⟩:=DP hp.he hx4 (by rw[Bu h4];decide)
 rw[q9]
 clear hD dD D
 intro ν fr;have nuE:=And.intro (fr.mem (b:=n5) (by simp)) (And.intro (fr.mem (b:=n2) (by simp)) (fr.nu))
 simp (maxDischargeDepth:=16) only[AX,↓AW,simprocAttr,forall_const,nuE,fr.2,CD,dst_]
 refine⟨i+1+1+1+1+1,x1.t,x3.n, ?_,rfl,q10, ?_⟩
 ·unfold GK;rw[e0,e1,h0,h1,show i+2=i+1+1 from rfl,e2,h2,show i+3=i+1+1+1 from rfl,e3,h3,show i+4=i+1+1+1+1 from rfl,e4,h4];rfl
 ·exact SubA.fresh (AK (eq_false e52.symm) (Ao g5)) (SubA.fresh (Ao f0) (SubA.refl _))
theorem Tj{E:AH}{a b c:Nat}{o u w:Obj}(ha:Vm.AA E a=none)(hb:Vm.AA E b=none)(hc:Vm.AA E c=none):Dis E [(a,o),(b,u),(c,w)]:=fun x hx=>by
 simp only[Vm.AA]at hx
 by_cases h1:a=x
 ·rw[←h1];exact ha
 ·rw[if_neg h1]at hx
  exact dis2 (o:=u) (u:=w) hb hc x (by simpa[Vm.AA]using hx)
theorem OU(a b c d e:Value):Cy Tryz.prog 34 1 [(0,.agg #[a,b,c,d,e])]=some (36,#[a,b,c,d,e]):=by kernel_rfl
theorem ql(pb cb:Nat)(lp:Option Addr)(lcap:Nat)(L:List LR)(A:AH)(hp:PsOk pb cb lp L A)(i:Nat)(hi:i<L.length)(hun: ∀k A',i<k→k<L.length→PsOk pb cb lp L A'→K4 164 5 pb cb lp lcap L A' k)(hex: ∀k A',i<k→k<L.length→PsOk pb cb lp L A'→K4 111 0 pb cb lp lcap L A' k):AZ Tryz.prog 164 #[.pointer (some ⟨pb,0,none⟩)] (PS pb cb lp lcap L i A) (K8 L A (Pr L (.lv 5) i)) (fun u_ A_=>fX pb cb lp lcap L A (Pr L (.lv 5) i) u_ A_):=by
 refine Bb ⟨Tryz.prog,164,Tryz.f164,82,[0,2,3,4],⟨[164,111,167,162,168,134,157,159,135],some (K8 L A (Pr L (.lv 5) i))⟩,[],_⟩ rfl (args:=[_]) Tryz.func164 rfl (by kernel_rfl) Tryz.ntmps164 (by simp) (by kernel_rfl) ?_
 intro ν fr;have nuE:=fr.nu
 have f0:=fr.2 0
 obtain⟨x,hx,ex⟩:=Bw hi
 have pk:=fun o=>P7 ((pb,pB cb)::A) cb L lp lcap hp.base.1 hp.base.2 i x hx ((ν 0,o)::PS pb cb lp lcap L i A) (SubA.fresh f0 (SubA.refl _))
 obtain⟨⟨m1,m2⟩,m3,m4⟩:=hp.far f0
 have g3:=fr.2 1
 obtain⟨⟨m5,m6⟩,m7,m8⟩:=hp.far g3
 simp only[PS,pB,Dl]at pk⊢
 simp (maxDischargeDepth:=16) only[AX,↓AW,simprocAttr,forall_const,nuE,fr.2,CD,pk,m1,m2,m3,m4,m5,m6,m7,m8,hp.ne,hp.en]
 have dst_:((ν 0=ν 1)=False)∧((ν 1=ν 0)=False):=(by simp[nuE]);generalize ν 0=n2 at dst_  f0 g3 m1 m2 m3 m4 m5 m6 m7 m8 ⊢;generalize ν 1=n3 at dst_  f0 g3 m1 m2 m3 m4 m5 m6 m7 m8⊢
 clear nuE fr pk
 have d23:=dst_
 cases h1:BX x 1 ⟨#[110,111,116]⟩with
 |true=>
  obtain⟨q1,q2⟩:=DP hp.he hx (by rw[Bu h1];decide)
  refine AZ.own (Y:=[(n3,_),(n2,_)]) (AZ.of (X:=fun _ _=>False) (Ju pb cb lp lcap L A hp i x hx _ h1)) (dis2 g3 f0) (fun ch D h=>h.elim) ?_
  rintro v D ⟨rfl,hD⟩ dD
  refine⟨_,hD, ?_⟩
  rw[q1]
  clear hD dD D
  simp only[List.cons_append,List.nil_append]
  intro ν fr;have nuE:=And.intro (fr.mem (b:=n3) (by simp)) (And.intro (fr.mem (b:=n2) (by simp)) (fr.nu))
  simp (maxDischargeDepth:=16) only[AX,↓AW,simprocAttr,forall_const,nuE,fr.2,CD,d23,m1,m2,m3,m4,m5,m6,m7,m8,hp.ne,hp.en]
  clear nuE fr
  have hu:EW (BR L i)=.one 4:=by rw[ex];unfold EW;simp[h1]
  refine AZ.own (Y:=[(n3,_),(n2,_)]) (hun (i+1) A (by omega) q2 hp) (dis2 (Ao g3) (Ao f0)) (fun ch D h=>(h.at (SubA.left _ _)).mono (SubA.refl _) fun e k h=>.unE hu h) ?_
  rintro v D ⟨t,k,r,A2,hq,rfl,hr,hk,hs,hp2,hD⟩ dD
  refine⟨_,hD, ?_⟩
  have g23:Vm.AA (PS pb cb lp lcap L k A2) n3=none:=hD.none (dD n3 (by simp[Vm.AA]))
  have g22:Vm.AA (PS pb cb lp lcap L k A2) n2=none:=hD.none (dD n2 (by simp[Vm.AA,dst_,d23]))
  clear hD dD D
  simp only[PS,pB,List.cons_append,List.nil_append,C5,Ck]
  intro ν fr;have nuE:=And.intro (fr.mem (b:=n3) (by simp)) (And.intro (fr.mem (b:=n2) (by simp)) (fr.nu))
  have g5:Vm.AA ((n3,.cells #[.int .i64 x.k,.string x.t,.int .i64 x.n,.int .i64 (x.a:Int)] 51)::(n2,.cells #[.int .i64 0,.string ⟨#[]⟩,.string ⟨#[]⟩,.int .i64 0,.slice none 0 0] 36)::PS pb cb lp lcap L k A2) (ν 0)=none:=fr.2 0
  simp (maxDischargeDepth:=16) only[AX,↓AW,simprocAttr,forall_const,nuE,fr.2,CD,OU]
  have dst_:((ν 0=n3)=False)∧((ν 0=n2)=False)∧((n3=ν 0)=False)∧((n2=ν 0)=False):=(by simp[nuE]);generalize ν 0=n5 at dst_  g5⊢
  clear nuE fr
  have s0:SubA (PS pb cb lp lcap L k A2) ((n3,.cells #[.int .i64 x.k,.string x.t,.int .i64 x.n,.int .i64 (x.a:Int)] 51)::(n2,.cells #[.int .i64 0,.string ⟨#[]⟩,.string ⟨#[]⟩,.int .i64 0,.slice none 0 0] 36)::PS pb cb lp lcap L k A2):=SubA.fresh (AK d23.1 g23) (SubA.fresh g22 (SubA.refl _))
  have s5:=fun o:Obj=>SubA.trans s0 (SubA.fresh (o:=o) g5 (SubA.refl _))
  refine AZ.of (AM.newX (Du ((n5,.cells #[.int .i64 r.op,.string r.nm,.string r.tx,.int .i64 r.n,.slice r.p r.len r.cap] 36)::(n3,.cells #[.int .i64 x.k,.string x.t,.int .i64 x.n,.int .i64 (x.a:Int)] 51)::(n2,.cells #[.int .i64 0,.string ⟨#[]⟩,.string ⟨#[]⟩,.int .i64 0,.slice none 0 0] 36)::PS pb cb lp lcap L k A2) 4 [r] (some ⟨n5,0,none⟩) 1 (Pu n5 _ r _) (by simp)) (SubA.refl _) ?_)
  rintro v B ⟨p',c',rfl,hS'⟩ hdB
  have hp3:=hp2.app hdB (s5 _)
  have dBA:Dis B A2:=Dis.subr hdB (SubA.trans (FH hp2) (s5 _))
  have n52:Vm.AA B n2=none:=hdB n2 (by simp[Vm.AA,dst_,d23])
  refine⟨(n2,.cells #[.int .i64 0,.string ⟨#[]⟩,.string ⟨#[]⟩,.int .i64 0,.slice none 0 0] 36)::PS pb cb lp lcap L k (A2++B),SubA.both (X:=(n2,.cells #[.int .i64 0,.string ⟨#[]⟩,.string ⟨#[]⟩,.int .i64 0,.slice none 0 0] 36)::PS pb cb lp lcap L k A2) (SubA.trans (SubA.fresh g5 (SubA.fresh (AK d23.1 g23) (SubA.refl _))) hdB.right) (SubA.left _ _), ?_⟩
  simp only[PS,pB,C5,Ck]
  intro ν fr;have nuE:=And.intro (fr.mem (b:=n2) (by simp)) (fr.nu)
  simp (maxDischargeDepth:=16) only[AX,↓AW,simprocAttr,forall_const,nuE,fr.2,CD]
  exact⟨UB 4 t,k,⟨4,eB,eB,0,p',1,c'⟩,A2++B,.unO hu hq,rfl,(hr.mono (SubA.left _ _)).one (hS'.mono dBA.symm.right),hk,SubA.trans hs (SubA.left _ _),hp3,SubA.fresh (AJ g22 n52) (SubA.refl _)⟩
 | false=>
  refine AZ.own (Y:=[(n3,_),(n2,_)]) (AZ.of (X:=fun _ _=>False) (J2 pb cb lp lcap L A hp i x hx _ h1)) (dis2 g3 f0) (fun ch D h=>h.elim) ?_
  rintro v D ⟨rfl,hD⟩ dD
  refine⟨_,hD, ?_⟩
  clear hD dD D
  simp only[List.cons_append,List.nil_append]
  intro ν fr;have nuE:=And.intro (fr.mem (b:=n3) (by simp)) (And.intro (fr.mem (b:=n2) (by simp)) (fr.nu))
  simp (maxDischargeDepth:=16) only[AX,↓AW,simprocAttr,forall_const,nuE,fr.2,CD,d23,m1,m2,m3,m4,m5,m6,m7,m8,hp.ne,hp.en]
  clear nuE fr
  cases h2:BX x 4 ⟨#[45]⟩with
  |true=>
   obtain⟨q1,q2⟩:=DP hp.he hx (by rw[Bu h2];decide)
   refine AZ.own (Y:=[(n3,_),(n2,_)]) (AZ.of (X:=fun _ _=>False) (FV pb cb lp lcap L A hp i x hx _ h2)) (dis2 g3 f0) (fun ch D h=>h.elim) ?_
   rintro v D ⟨rfl,hD⟩ dD
   refine⟨_,hD, ?_⟩
   rw[q1]
   clear hD dD D
   simp only[List.cons_append,List.nil_append]
   intro ν fr;have nuE:=And.intro (fr.mem (b:=n3) (by simp)) (And.intro (fr.mem (b:=n2) (by simp)) (fr.nu))
   simp (maxDischargeDepth:=16) only[AX,↓AW,simprocAttr,forall_const,nuE,fr.2,CD,d23,m1,m2,m3,m4,m5,m6,m7,m8,hp.ne,hp.en]
   clear nuE fr
   have hu:EW (BR L i)=.one 5:=by rw[ex];unfold EW;simp[h1,h2]
   refine AZ.own (Y:=[(n3,_),(n2,_)]) (hun (i+1) A (by omega) q2 hp) (dis2 (Ao g3) (Ao f0)) (fun ch D h=>(h.at (SubA.left _ _)).mono (SubA.refl _) fun e k h=>.unE hu h) ?_
   rintro v D ⟨t,k,r,A2,hq,rfl,hr,hk,hs,hp2,hD⟩ dD
   refine⟨_,hD, ?_⟩
   have g23:Vm.AA (PS pb cb lp lcap L k A2) n3=none:=hD.none (dD n3 (by simp[Vm.AA]))
   have g22:Vm.AA (PS pb cb lp lcap L k A2) n2=none:=hD.none (dD n2 (by simp[Vm.AA,dst_,d23]))
   clear hD dD D
   simp only[PS,pB,List.cons_append,List.nil_append,C5,Ck]
   intro ν fr;have nuE:=And.intro (fr.mem (b:=n3) (by simp)) (And.intro (fr.mem (b:=n2) (by simp)) (fr.nu))
   have g5:Vm.AA ((n3,.cells #[.int .i64 x.k,.string x.t,.int .i64 x.n,.int .i64 (x.a:Int)] 51)::(n2,.cells #[.int .i64 0,.string ⟨#[]⟩,.string ⟨#[]⟩,.int .i64 0,.slice none 0 0] 36)::PS pb cb lp lcap L k A2) (ν 0)=none:=fr.2 0
   simp (maxDischargeDepth:=16) only[AX,↓AW,simprocAttr,forall_const,nuE,fr.2,CD,OU]
   have dst_:((ν 0=n3)=False)∧((ν 0=n2)=False)∧((n3=ν 0)=False)∧((n2=ν 0)=False):=(by simp[nuE]);generalize ν 0=n5 at dst_  g5⊢
   clear nuE fr
   have s0:SubA (PS pb cb lp lcap L k A2) ((n3,.cells #[.int .i64 x.k,.string x.t,.int .i64 x.n,.int .i64 (x.a:Int)] 51)::(n2,.cells #[.int .i64 0,.string ⟨#[]⟩,.string ⟨#[]⟩,.int .i64 0,.slice none 0 0] 36)::PS pb cb lp lcap L k A2):=SubA.fresh (AK d23.1 g23) (SubA.fresh g22 (SubA.refl _))
   have s5:=fun o:Obj=>SubA.trans s0 (SubA.fresh (o:=o) g5 (SubA.refl _))
   refine AZ.of (AM.newX (Du ((n5,.cells #[.int .i64 r.op,.string r.nm,.string r.tx,.int .i64 r.n,.slice r.p r.len r.cap] 36)::(n3,.cells #[.int .i64 x.k,.string x.t,.int .i64 x.n,.int .i64 (x.a:Int)] 51)::(n2,.cells #[.int .i64 0,.string ⟨#[]⟩,.string ⟨#[]⟩,.int .i64 0,.slice none 0 0] 36)::PS pb cb lp lcap L k A2) 5 [r] (some ⟨n5,0,none⟩) 1 (Pu n5 _ r _) (by simp)) (SubA.refl _) ?_)
   rintro v B ⟨p',c',rfl,hS'⟩ hdB
   have hp3:=hp2.app hdB (s5 _)
   have dBA:Dis B A2:=Dis.subr hdB (SubA.trans (FH hp2) (s5 _))
   have n52:Vm.AA B n2=none:=hdB n2 (by simp[Vm.AA,dst_,d23])
   refine⟨(n2,.cells #[.int .i64 0,.string ⟨#[]⟩,.string ⟨#[]⟩,.int .i64 0,.slice none 0 0] 36)::PS pb cb lp lcap L k (A2++B),SubA.both (X:=(n2,.cells #[.int .i64 0,.string ⟨#[]⟩,.string ⟨#[]⟩,.int .i64 0,.slice none 0 0] 36)::PS pb cb lp lcap L k A2) (SubA.trans (SubA.fresh g5 (SubA.fresh (AK d23.1 g23) (SubA.refl _))) hdB.right) (SubA.left _ _), ?_⟩
   simp only[PS,pB,C5,Ck]
   intro ν fr;have nuE:=And.intro (fr.mem (b:=n2) (by simp)) (fr.nu)
   simp (maxDischargeDepth:=16) only[AX,↓AW,simprocAttr,forall_const,nuE,fr.2,CD]
   exact⟨UB 5 t,k,⟨5,eB,eB,0,p',1,c'⟩,A2++B,.unO hu hq,rfl,(hr.mono (SubA.left _ _)).one (hS'.mono dBA.symm.right),hk,SubA.trans hs (SubA.left _ _),hp3,SubA.fresh (AJ g22 n52) (SubA.refl _)⟩
  | false=>
   refine AZ.own (Y:=[(n3,_),(n2,_)]) (AZ.of (X:=fun _ _=>False) (FU pb cb lp lcap L A hp i x hx _ h2)) (dis2 g3 f0) (fun ch D h=>h.elim) ?_
   rintro v D ⟨rfl,hD⟩ dD
   refine⟨_,hD, ?_⟩
   clear hD dD D
   simp only[List.cons_append,List.nil_append]
   intro ν fr;have nuE:=And.intro (fr.mem (b:=n3) (by simp)) (And.intro (fr.mem (b:=n2) (by simp)) (fr.nu))
   simp (maxDischargeDepth:=16) only[AX,↓AW,simprocAttr,forall_const,nuE,fr.2,CD,d23,m1,m2,m3,m4,m5,m6,m7,m8,hp.ne,hp.en]
   clear nuE fr
   cases h3:BX x 1 ⟨#[99,111,117,110,116]⟩with
   |true=>
    obtain⟨q1,q2⟩:=DP hp.he hx (by rw[Bu h3];decide)
    refine AZ.own (Y:=[(n3,_),(n2,_)]) (AZ.of (X:=fun _ _=>False) (Ju pb cb lp lcap L A hp i x hx _ h3)) (dis2 g3 f0) (fun ch D h=>h.elim) ?_
    rintro v D ⟨rfl,hD⟩ dD
    refine⟨_,hD, ?_⟩
    rw[q1]
    clear hD dD D
    simp only[List.cons_append,List.nil_append]
    intro ν fr;have nuE:=And.intro (fr.mem (b:=n3) (by simp)) (And.intro (fr.mem (b:=n2) (by simp)) (fr.nu))
    simp (maxDischargeDepth:=16) only[AX,↓AW,simprocAttr,forall_const,nuE,fr.2,CD,d23,m1,m2,m3,m4,m5,m6,m7,m8,hp.ne,hp.en]
    clear nuE fr
    have hu:EW (BR L i)=.use 16:=by rw[ex];unfold EW;simp[h1,h2,h3]
    refine AZ.own (Y:=[(n3,_),(n2,_)]) (Wl pb cb lp lcap L A hp (i+1) q2 16) (dis2 (Ao g3) (Ao f0)) (fun ch D ⟨e,j,nm,n,y,h6,h7,h8,h9,h10⟩=>⟨e,j,y,h6,.usE hu h7 h6,h8,h9,SubA.trans h10 (SubA.left _ _)⟩) ?_
    rintro v D ⟨j,nm,n,h7,rfl,hj,hD⟩ dD
    refine⟨_,hD, ?_⟩
    clear hD dD D
    simp only[PS,pB,List.cons_append,List.nil_append,C5,Ck]
    intro ν fr;have nuE:=And.intro (fr.mem (b:=n3) (by simp)) (And.intro (fr.mem (b:=n2) (by simp)) (fr.nu))
    simp (maxDischargeDepth:=16) only[AX,↓AW,simprocAttr,forall_const,nuE,fr.2,CD,d23,m1,m2,m3,m4,m5,m6,m7,m8,hp.ne,hp.en]
    exact⟨.mk 16 nm eB n [],j,⟨16,nm,eB,n,none,0,0⟩,A,.usO hu h7,rfl,ExR.leaf _ _ _ _ _ _ _,hj,SubA.refl _,hp,SubA.fresh (AK d23.1 (Ao g3)) (SubA.fresh (Ao f0) (SubA.refl _))⟩
   | false=>
    refine AZ.own (Y:=[(n3,_),(n2,_)]) (AZ.of (X:=fun _ _=>False) (J2 pb cb lp lcap L A hp i x hx _ h3)) (dis2 g3 f0) (fun ch D h=>h.elim) ?_
    rintro v D ⟨rfl,hD⟩ dD
    refine⟨_,hD, ?_⟩
    clear hD dD D
    simp only[List.cons_append,List.nil_append]
    intro ν fr;have nuE:=And.intro (fr.mem (b:=n3) (by simp)) (And.intro (fr.mem (b:=n2) (by simp)) (fr.nu))
    simp (maxDischargeDepth:=16) only[AX,↓AW,simprocAttr,forall_const,nuE,fr.2,CD,d23,m1,m2,m3,m4,m5,m6,m7,m8,hp.ne,hp.en]
    clear nuE fr
    cases h4:BX x 1 ⟨#[115,117,109]⟩with
    |true=>
     obtain⟨q1,q2⟩:=DP hp.he hx (by rw[Bu h4];decide)
     refine AZ.own (Y:=[(n3,_),(n2,_)]) (AZ.of (X:=fun _ _=>False) (Ju pb cb lp lcap L A hp i x hx _ h4)) (dis2 g3 f0) (fun ch D h=>h.elim) ?_
     rintro v D ⟨rfl,hD⟩ dD
     refine⟨_,hD, ?_⟩
     rw[q1]
     clear hD dD D
     simp only[List.cons_append,List.nil_append]
     intro ν fr;have nuE:=And.intro (fr.mem (b:=n3) (by simp)) (And.intro (fr.mem (b:=n2) (by simp)) (fr.nu))
     simp (maxDischargeDepth:=16) only[AX,↓AW,simprocAttr,forall_const,nuE,fr.2,CD,d23,m1,m2,m3,m4,m5,m6,m7,m8,hp.ne,hp.en]
     clear nuE fr
     have hu:EW (BR L i)=.use 17:=by rw[ex];unfold EW;simp[h1,h2,h3,h4]
     refine AZ.own (Y:=[(n3,_),(n2,_)]) (Wl pb cb lp lcap L A hp (i+1) q2 17) (dis2 (Ao g3) (Ao f0)) (fun ch D ⟨e,j,nm,n,y,h6,h7,h8,h9,h10⟩=>⟨e,j,y,h6,.usE hu h7 h6,h8,h9,SubA.trans h10 (SubA.left _ _)⟩) ?_
     rintro v D ⟨j,nm,n,h7,rfl,hj,hD⟩ dD
     refine⟨_,hD, ?_⟩
     clear hD dD D
     simp only[PS,pB,List.cons_append,List.nil_append,C5,Ck]
     intro ν fr;have nuE:=And.intro (fr.mem (b:=n3) (by simp)) (And.intro (fr.mem (b:=n2) (by simp)) (fr.nu))
     simp (maxDischargeDepth:=16) only[AX,↓AW,simprocAttr,forall_const,nuE,fr.2,CD,d23,m1,m2,m3,m4,m5,m6,m7,m8,hp.ne,hp.en]
     exact⟨.mk 17 nm eB n [],j,⟨17,nm,eB,n,none,0,0⟩,A,.usO hu h7,rfl,ExR.leaf _ _ _ _ _ _ _,hj,SubA.refl _,hp,SubA.fresh (AK d23.1 (Ao g3)) (SubA.fresh (Ao f0) (SubA.refl _))⟩
    | false=>
     refine AZ.own (Y:=[(n3,_),(n2,_)]) (AZ.of (X:=fun _ _=>False) (J2 pb cb lp lcap L A hp i x hx _ h4)) (dis2 g3 f0) (fun ch D h=>h.elim) ?_
     rintro v D ⟨rfl,hD⟩ dD
     refine⟨_,hD, ?_⟩
     clear hD dD D
     simp only[List.cons_append,List.nil_append]
     intro ν fr;have nuE:=And.intro (fr.mem (b:=n3) (by simp)) (And.intro (fr.mem (b:=n2) (by simp)) (fr.nu))
     simp (maxDischargeDepth:=16) only[AX,↓AW,simprocAttr,forall_const,nuE,fr.2,CD,d23,m1,m2,m3,m4,m5,m6,m7,m8,hp.ne,hp.en]
     clear nuE fr
     cases h5:BX x 4 ⟨#[40]⟩with
     |true=>
      obtain⟨q1,q2⟩:=DP hp.he hx (by rw[Bu h5];decide)
      refine AZ.own (Y:=[(n3,_),(n2,_)]) (AZ.of (X:=fun _ _=>False) (FV pb cb lp lcap L A hp i x hx _ h5)) (dis2 g3 f0) (fun ch D h=>h.elim) ?_
      rintro v D ⟨rfl,hD⟩ dD
      refine⟨_,hD, ?_⟩
      rw[q1]
      clear hD dD D
      simp only[List.cons_append,List.nil_append]
      intro ν fr;have nuE:=And.intro (fr.mem (b:=n3) (by simp)) (And.intro (fr.mem (b:=n2) (by simp)) (fr.nu))
      simp (maxDischargeDepth:=16) only[AX,↓AW,simprocAttr,forall_const,nuE,fr.2,CD,d23,m1,m2,m3,m4,m5,m6,m7,m8,hp.ne,hp.en]
      clear nuE fr
      have hu:EW (BR L i)=.par:=by rw[ex];unfold EW;simp[h1,h2,h3,h4,h5]
      refine AZ.own (Y:=[(n3,_),(n2,_)]) (hex (i+1) A (by omega) q2 hp) (dis2 (Ao g3) (Ao f0)) (fun ch D h=>(h.at (SubA.left _ _)).mono (SubA.refl _) fun e k h=>.paE hu h) ?_
      rintro v D ⟨t,k,r,A2,hq,rfl,hr,hk,hs,hp2,hD⟩ dD
      refine⟨_,hD, ?_⟩
      have g23:Vm.AA (PS pb cb lp lcap L k A2) n3=none:=hD.none (dD n3 (by simp[Vm.AA]))
      have g22:Vm.AA (PS pb cb lp lcap L k A2) n2=none:=hD.none (dD n2 (by simp[Vm.AA,d23]))
      clear hD dD D
      simp only[List.cons_append,List.nil_append,C5,Ck]
      intro ν fr;have nuE:=And.intro (fr.mem (b:=n3) (by simp)) (And.intro (fr.mem (b:=n2) (by simp)) (fr.nu))
      have g5:Vm.AA ((n3,.cells #[.int .i64 x.k,.string x.t,.int .i64 x.n,.int .i64 (x.a:Int)] 51)::(n2,.cells #[.int .i64 0,.string ⟨#[]⟩,.string ⟨#[]⟩,.int .i64 0,.slice none 0 0] 36)::PS pb cb lp lcap L k A2) (ν 0)=none:=fr.2 0
      simp (maxDischargeDepth:=16) only[AX,↓AW,simprocAttr,forall_const,nuE,fr.2,CD]
      have dst_:((ν 0=n3)=False)∧((ν 0=n2)=False)∧((n3=ν 0)=False)∧((n2=ν 0)=False):=(by simp[nuE]);generalize ν 0=n5 at dst_  g5⊢
      clear nuE fr
      have s0:SubA (PS pb cb lp lcap L k A2) ((n3,.cells #[.int .i64 x.k,.string x.t,.int .i64 x.n,.int .i64 (x.a:Int)] 51)::(n2,.cells #[.int .i64 0,.string ⟨#[]⟩,.string ⟨#[]⟩,.int .i64 0,.slice none 0 0] 36)::PS pb cb lp lcap L k A2):=SubA.fresh (AK d23.1 g23) (SubA.fresh g22 (SubA.refl _))
      have g55:=s0.none g5
      obtain⟨y,hy,ey⟩:=Bw hk
      refine AZ.own (Y:=[(n5,_),(n3,_),(n2,_)]) (Gs pb cb lp lcap L A2 hp2 k y hy _) (Tj g55 g23 g22) (fun ch D ⟨h6,z,h7,h8,h9⟩=>⟨2,k,z,by decide,.paB hu hq (by rw[ey];exact h6),h7,h8,SubA.trans (SubA.trans hs (SubA.trans (FH hp2) h9)) (SubA.left _ _)⟩) ?_
      rintro v D ⟨h6,hD⟩ dD
      refine⟨_,hD, ?_⟩
      obtain⟨q3,q4⟩:=DP hp2.he hy (by rw[Bu h6];decide)
      rw[q3]
      clear hD dD D
      simp only[List.cons_append,List.nil_append]
      intro ν fr;have nuE:=And.intro (fr.mem (b:=n5) (by simp)) (And.intro (fr.mem (b:=n3) (by simp)) (And.intro (fr.mem (b:=n2) (by simp)) (fr.nu)))
      simp (maxDischargeDepth:=16) only[AX,↓AW,simprocAttr,forall_const,nuE,fr.2,CD,dst_,d23]
      exact⟨t,k+1,r,A2,.paO hu hq (by rw[ey];exact h6),rfl,hr,q4,hs,hp2,(Tj (Ao g55) (Ao g23) (Ao g22)).symm.right⟩
     | false=>
      refine AZ.own (Y:=[(n3,_),(n2,_)]) (AZ.of (X:=fun _ _=>False) (FU pb cb lp lcap L A hp i x hx _ h5)) (dis2 g3 f0) (fun ch D h=>h.elim) ?_
      rintro v D ⟨rfl,hD⟩ dD
      refine⟨_,hD, ?_⟩
      clear hD dD D
      simp only[List.cons_append,List.nil_append]
      intro ν fr;have nuE:=And.intro (fr.mem (b:=n3) (by simp)) (And.intro (fr.mem (b:=n2) (by simp)) (fr.nu))
      simp (maxDischargeDepth:=16) only[AX,↓AW,simprocAttr,forall_const,nuE,fr.2,CD,d23,m1,m2,m3,m4,m5,m6,m7,m8,hp.ne,hp.en]
      by_cases k2:x.k=2
      ·simp (maxDischargeDepth:=16) only[AX,↓AW,simprocAttr,forall_const,nuE,fr.2,CD,eq_true k2,k2]
       clear nuE fr
       have hu:EW (BR L i)=.num:=by rw[ex];unfold EW;simp[h1,h2,h3,h4,h5,k2]
       obtain⟨q1,q2⟩:=DP hp.he hx (by omega)
       refine AZ.own (Y:=[(n3,_),(n2,_)]) (AZ.of (X:=fun _ _=>False) (Ht ((pb,pB cb)::A) cb L lp lcap hp.base.1 hp.base.2 hp.hl i x hx)) (dis2 g3 f0) (fun ch D h=>h.elim) ?_
       rintro v D ⟨rfl,hD⟩ dD
       refine⟨_,hD, ?_⟩
       rw[q1]
       clear hD dD D
       simp only[List.cons_append,List.nil_append,pB,Dl]
       intro ν fr;have nuE:=And.intro (fr.mem (b:=n3) (by simp)) (And.intro (fr.mem (b:=n2) (by simp)) (fr.nu))
       simp (maxDischargeDepth:=16) only[AX,↓AW,simprocAttr,forall_const,nuE,fr.2,CD,d23,m1,m2,m3,m4,m5,m6,m7,m8,hp.ne,hp.en]
       exact⟨.mk 1 eB eB x.n [],i+1,⟨1,eB,eB,x.n,none,0,0⟩,A,ex▸ .nu hu,rfl,ExR.leaf _ _ _ _ _ _ _,q2,SubA.refl _,hp,SubA.fresh (AK d23.1 (Ao g3)) (SubA.fresh (Ao f0) (SubA.refl _))⟩
      ·have e2:(x.k==2)=false:=by simp[k2]
       by_cases k3:x.k=3
       ·simp (maxDischargeDepth:=16) only[AX,↓AW,simprocAttr,forall_const,nuE,fr.2,CD,e2,eq_false k2,k3]
        clear nuE fr
        have hu:EW (BR L i)=.txt:=by rw[ex];unfold EW;simp[h1,h2,h3,h4,h5,k3]
        obtain⟨q1,q2⟩:=DP hp.he hx (by omega)
        refine AZ.own (Y:=[(n3,_),(n2,_)]) (AZ.of (X:=fun _ _=>False) (Ht ((pb,pB cb)::A) cb L lp lcap hp.base.1 hp.base.2 hp.hl i x hx)) (dis2 g3 f0) (fun ch D h=>h.elim) ?_
        rintro v D ⟨rfl,hD⟩ dD
        refine⟨_,hD, ?_⟩
        rw[q1]
        clear hD dD D
        simp only[List.cons_append,List.nil_append,pB,Dl]
        intro ν fr;have nuE:=And.intro (fr.mem (b:=n3) (by simp)) (And.intro (fr.mem (b:=n2) (by simp)) (fr.nu))
        simp (maxDischargeDepth:=16) only[AX,↓AW,simprocAttr,forall_const,nuE,fr.2,CD,d23,m1,m2,m3,m4,m5,m6,m7,m8,hp.ne,hp.en]
        exact⟨.mk 2 eB x.t 0 [],i+1,⟨2,eB,x.t,0,none,0,0⟩,A,ex▸ .te hu,rfl,ExR.leaf _ _ _ _ _ _ _,q2,SubA.refl _,hp,SubA.fresh (AK d23.1 (Ao g3)) (SubA.fresh (Ao f0) (SubA.refl _))⟩
       ·have e3:(x.k==3)=false:=by simp[k3]
        simp (maxDischargeDepth:=16) only[AX,↓AW,simprocAttr,forall_const,nuE,fr.2,CD,e2,e3,eq_false k2,eq_false k3]
        clear nuE fr
        refine AZ.own (Y:=[(n3,_),(n2,_)]) (XM pb cb lp lcap L A hp i x hx) (dis2 g3 f0) (fun ch D ⟨h6,z,h7,h8,h9⟩=>⟨2,i,z,by decide,.ba (by rw[ex];unfold EW;simp[h1,h2,h3,h4,h5,k2,k3,h6]),h7,h8,SubA.trans (SubA.trans (FH hp) h9) (SubA.left _ _)⟩) ?_
        rintro v D ⟨h6,rfl,hD⟩ dD
        refine⟨_,hD, ?_⟩
        have hu:EW (BR L i)=.nam:=by rw[ex];unfold EW;simp[h1,h2,h3,h4,h5,k2,k3,h6]
        obtain⟨q1,q2⟩:=DP hp.he hx (Wc h6)
        rw[q1]
        clear hD dD D
        simp only[List.cons_append,List.nil_append]
        intro ν fr;have nuE:=And.intro (fr.mem (b:=n3) (by simp)) (And.intro (fr.mem (b:=n2) (by simp)) (fr.nu))
        simp (maxDischargeDepth:=16) only[AX,↓AW,simprocAttr,forall_const,nuE,fr.2,CD,d23,m1,m2,m3,m4,m5,m6,m7,m8,hp.ne,hp.en]
        exact⟨.mk 3 x.t eB 0 [],i+1,⟨3,x.t,eB,0,none,0,0⟩,A,ex▸ .na hu,rfl,ExR.leaf _ _ _ _ _ _ _,q2,SubA.refl _,hp,SubA.fresh (AK d23.1 (Ao g3)) (SubA.fresh (Ao f0) (SubA.refl _))⟩
end Go.Proofs.YtfphceknmgadgaaGreatDoor
namespace Go.Proofs.YtfphceknmgadgaaGreatDoor
open Go.Vm
set_option maxHeartbeats 4000000
set_option maxRecDepth 20000
def YP(L:List LR)(i:Nat)(t:Xs)(z:Rz):Prop:=(BX (BR L i) 4 ⟨#[40]⟩=false∧z=.er 2 i)∨(BX (BR L i) 4 ⟨#[40]⟩=true∧Pr L (.ch [t]) (i+1) z)
theorem YP.to{L:List LR}{i j:Nat}{t:Xs}{z:Rz}(hq:Pr L (.lv 3) i (.ok t j))(hc:Hf (BR L j)=none)(hb:W4 (BR L j)=true)(h:YP L (j+1) t z):Pr L (.lv 2) i z:=by
 rcases h with⟨h1,rfl⟩|⟨h1,h2⟩
 ·exact .inP hq hc hb h1
 ·exact .inC hq hc hb h1 h2
theorem fw(pb cb:Nat)(lp:Option Addr)(lcap:Nat)(L:List LR)(A:AH)(hp:PsOk pb cb lp L A)(i:Nat)(hi:i<L.length)(hun: ∀k A',i≤k→k<L.length→PsOk pb cb lp L A'→K4 156 3 pb cb lp lcap L A' k)(hch: ∀k A' t r,i<k→k<L.length→PsOk pb cb lp L A'→ExR A' t r→AZ Tryz.prog 158 #[.pointer (some ⟨pb,0,none⟩),C5 r] (PS pb cb lp lcap L k A') (K8 L A' (YP L k t)) (fX pb cb lp lcap L A' (YP L k t))):AZ Tryz.prog 148 #[.pointer (some ⟨pb,0,none⟩)] (PS pb cb lp lcap L i A) (K8 L A (Pr L (.lv 2) i)) (fun u_ A_=>fX pb cb lp lcap L A (Pr L (.lv 2) i) u_ A_):=by
 refine Bb ⟨Tryz.prog,148,Tryz.f148,60,[0,2,3],⟨[156,158,157,134,135],some (K8 L A (Pr L (.lv 2) i))⟩,[],_⟩ rfl (args:=[_]) Tryz.func148 rfl (by kernel_rfl) Tryz.ntmps148 (by simp) (by kernel_rfl) ?_
 intro ν fr;have nuE:=fr.nu
 have f0:=fr.2 0
 simp only[PS,pB]
 simp (maxDischargeDepth:=16) only[AX,↓AW,simprocAttr,forall_const,nuE,fr.2,CD,hp.ne,hp.en]
 have dst_:True:=(by simp[nuE]);generalize ν 0=n2 at dst_  f0⊢
 clear nuE fr dst_
 refine AZ.to (hun i A (Nat.le_refl _) hi hp) (SubA.fresh f0 (SubA.refl _)) [(n2,_)] (SubA.left [_] _) (Dis.one f0).symm (fun ch D h dD=>⟨D,SubA.left _ _,h.mono (SubA.refl _) fun e j h=>.cmE h⟩) ?_
 rintro v D ⟨t,j,r,A',hq,rfl,hr,hj,hs,hp',hD⟩ dD
 refine⟨_,SubA.front dD hD, ?_⟩
 have g2:Vm.AA (PS pb cb lp lcap L j A') n2=none:=hD.none (dD n2 (by simp[Vm.AA]))
 simp only[PS,pB,List.cons_append,List.nil_append]
 intro ν fr;have nuE:=And.intro (fr.mem (b:=n2) (by simp)) (fr.nu)
 simp only[C5,Ck]
 have f3:Vm.AA ((n2,.cells #[.int .i64 0,.string ⟨#[]⟩,.string ⟨#[]⟩,.int .i64 0,.slice none 0 0] 36)::PS pb cb lp lcap L j A') (ν 0)=none:=fr.2 0
 have g3:Vm.AA (PS pb cb lp lcap L j A') (ν 0)=none:=(SubA.fresh g2 (SubA.refl _)).none f3
 obtain⟨⟨m1,m2⟩,m3,m4⟩:=hp'.far g2
 obtain⟨⟨m5,m6⟩,m7,m8⟩:=hp'.far g3
 obtain⟨x,hx,hlx⟩:=Bw hj
 simp (maxDischargeDepth:=16) only[AX,↓AW,simprocAttr,forall_const,nuE,fr.2,CD,m1,m2,m3,m4,m5,m6,m7,m8,hp'.ne,hp'.en]
 have dst_:((ν 0=n2)=False)∧((n2=ν 0)=False):=(by simp[nuE]);generalize ν 0=n3 at dst_  f3 g3 m5 m6 m7 m8⊢
 clear dD hD D f3 f0
 have e32:n3≠n2:=fun h=>by have:=dst_.1;rw[this]at h;exact h
 have hij:i≤j:=hq.le
 cases h1:BX x 4 ⟨#[61]⟩with
 |true=>
  refine AZ.to (AZ.of (X:=fun _ _=>False) (FV pb cb lp lcap L A' hp' j x hx _ h1)) (SubA.fresh (AK (eq_false e32.symm) g3) (SubA.fresh g2 (SubA.refl _))) [(n3,_),(n2,_)] (SubA.left [_,_] _) (dis2 g3 g2) (fun ch D h=>h.elim) ?_
  rintro v D ⟨rfl,hD⟩ dD
  refine⟨_,SubA.front dD hD, ?_⟩
  clear nuE fr
  simp only[List.cons_append,List.nil_append]
  intro ν fr;have nuE:=And.intro (fr.mem (b:=n3) (by simp)) (And.intro (fr.mem (b:=n2) (by simp)) (fr.nu))
  simp (maxDischargeDepth:=16) only[AX,↓AW,simprocAttr,forall_const,nuE,fr.2,CD,dst_,m1,m2,m3,m4,m5,m6,m7,m8,hp'.ne,hp'.en]
  obtain⟨hn1,hn2⟩:=DP hp'.he hx (by rw[Bu h1];decide)
  have ho:Hf (BR L j)=some 8:=by rw[hlx];unfold Hf;simp[h1]
  rw[hn1]
  refine CO.plan [(0,0),(1,0),(2,0),(3,2),(4,1),(5,2)] [(n3,.cells #[.int .i64 r.op,.string r.nm,.string r.tx,.int .i64 r.n,.slice r.p r.len r.cap] 36)] (SubA.left [_] _) (by kernel_rfl) (by kernel_rfl) (by kernel_rfl) (by kernel_rfl) (by kernel_rfl) (by kernel_rfl) ?_
  clear nuE fr hD dD D
  intro ν fr;have nuE:=And.intro (fr.mem (b:=n3) (by simp)) (And.intro (fr.mem (b:=n2) (by simp)) (fr.nu))
  simp (maxDischargeDepth:=16) only[AX,↓AW,simprocAttr,forall_const,nuE,fr.2,CD,dst_,m1,m2,m3,m4,m5,m6,m7,m8,hp'.ne,hp'.en]
  refine AZ.to (hun (j+1) A' (by omega) hn2 hp') (SubA.fresh (AK (eq_false e32.symm) (Ao g3)) (SubA.fresh (Ao g2) (SubA.refl _))) [(n3,_),(n2,_)] (SubA.left [_,_] _) (dis2 (Ao g3) (Ao g2)) (fun ch D h dD=>⟨D,SubA.left _ _,h.mono hs fun e k h=>.cmF hq ho h⟩) ?_
  rintro v D ⟨t2,k,r2,A2,hq2,rfl,hr2,hk,hs2,hp2,hD⟩ dD
  refine⟨_,SubA.front dD hD, ?_⟩
  have g23:Vm.AA (PS pb cb lp lcap L k A2) n3=none:=hD.none (dD n3 (by simp[Vm.AA]))
  have g22:Vm.AA (PS pb cb lp lcap L k A2) n2=none:=hD.none (dD n2 (by simp[Vm.AA,e32]))
  clear nuE fr
  simp only[PS,pB,List.cons_append,List.nil_append,C5,Ck]
  intro ν fr;have nuE:=And.intro (fr.mem (b:=n3) (by simp)) (And.intro (fr.mem (b:=n2) (by simp)) (fr.nu))
  have g5:Vm.AA ((n3,_)::(n2,_)::PS pb cb lp lcap L k A2) (ν 0)=none:=fr.2 0
  simp (maxDischargeDepth:=16) only[AX,↓AW,simprocAttr,forall_const,nuE,fr.2,CD,F5]
  have dst_:((ν 0=n3)=False)∧((ν 0=n2)=False)∧((n3=ν 0)=False)∧((n2=ν 0)=False):=(by simp[nuE]);generalize ν 0=n5 at dst_  g5⊢
  clear nuE fr dD hD D
  refine AZ.of (AM.newX (Du ((n5,.cells #[.int .i64 r.op,.string r.nm,.string r.tx,.int .i64 r.n,.slice r.p r.len r.cap,.int .i64 r2.op,.string r2.nm,.string r2.tx,.int .i64 r2.n,.slice r2.p r2.len r2.cap] 36)::(n3,.cells #[.int .i64 r.op,.string r.nm,.string r.tx,.int .i64 r.n,.slice r.p r.len r.cap] 36)::(n2,.cells #[.int .i64 0,.string ⟨#[]⟩,.string ⟨#[]⟩,.int .i64 0,.slice none 0 0] 36)::PS pb cb lp lcap L k A2) 8 [r,r2] (some ⟨n5,0,none⟩) 2 (FW n5 _ r r2 _) (by simp)) (SubA.refl _) ?_)
  rintro v B ⟨p',c',rfl,hS'⟩ hdB
  have s5:SubA (PS pb cb lp lcap L k A2) ((n5,.cells #[.int .i64 r.op,.string r.nm,.string r.tx,.int .i64 r.n,.slice r.p r.len r.cap,.int .i64 r2.op,.string r2.nm,.string r2.tx,.int .i64 r2.n,.slice r2.p r2.len r2.cap] 36)::(n3,.cells #[.int .i64 r.op,.string r.nm,.string r.tx,.int .i64 r.n,.slice r.p r.len r.cap] 36)::(n2,.cells #[.int .i64 0,.string ⟨#[]⟩,.string ⟨#[]⟩,.int .i64 0,.slice none 0 0] 36)::PS pb cb lp lcap L k A2):=SubA.fresh g5 (SubA.fresh (AK (eq_false e32.symm) g23) (SubA.fresh g22 (SubA.refl _)))
  have hp3:=hp2.app hdB s5
  have hs3:SubA A2 (A2++B):=SubA.left _ _
  have n53:Vm.AA B n3=none:=hdB n3 (by simp[Vm.AA,dst_])
  have n52:Vm.AA B n2=none:=hdB n2 (by simp[Vm.AA,dst_,e32])
  have n55:Vm.AA B n5=none:=hdB n5 (by simp[Vm.AA])
  have gA5:Vm.AA (PS pb cb lp lcap L k A2) n5=none:=(SubA.fresh (AK (eq_false e32.symm) g23) (SubA.fresh g22 (SubA.refl _))).none g5
  have dBA:Dis B A2:=Dis.subr hdB (SubA.trans (show SubA A2 (PS pb cb lp lcap L k A2) from SubA.skip (by simp[Vm.AA,hp2.nc,hp2.ne]) (SubA.skip hp2.np (SubA.refl _))) s5)
  have sM:SubA ((n5,.cells #[.int .i64 r.op,.string r.nm,.string r.tx,.int .i64 r.n,.slice r.p r.len r.cap,.int .i64 r2.op,.string r2.nm,.string r2.tx,.int .i64 r2.n,.slice r2.p r2.len r2.cap] 36)::(n3,.cells #[.int .i64 r.op,.string r.nm,.string r.tx,.int .i64 r.n,.slice r.p r.len r.cap] 36)::(n2,.cells #[.int .i64 0,.string ⟨#[]⟩,.string ⟨#[]⟩,.int .i64 0,.slice none 0 0] 36)::PS pb cb lp lcap L k A2) ((n5,.cells #[.int .i64 r.op,.string r.nm,.string r.tx,.int .i64 r.n,.slice r.p r.len r.cap,.int .i64 r2.op,.string r2.nm,.string r2.tx,.int .i64 r2.n,.slice r2.p r2.len r2.cap] 36)::(n3,.cells #[.int .i64 r.op,.string r.nm,.string r.tx,.int .i64 r.n,.slice r.p r.len r.cap] 36)::(n2,.cells #[.int .i64 0,.string ⟨#[]⟩,.string ⟨#[]⟩,.int .i64 0,.slice none 0 0] 36)::PS pb cb lp lcap L k (A2++B)):=SubA.left _ B
  refine⟨(n5,.cells #[.int .i64 r.op,.string r.nm,.string r.tx,.int .i64 r.n,.slice r.p r.len r.cap,.int .i64 r2.op,.string r2.nm,.string r2.tx,.int .i64 r2.n,.slice r2.p r2.len r2.cap] 36)::(n3,.cells #[.int .i64 r.op,.string r.nm,.string r.tx,.int .i64 r.n,.slice r.p r.len r.cap] 36)::(n2,.cells #[.int .i64 0,.string ⟨#[]⟩,.string ⟨#[]⟩,.int .i64 0,.slice none 0 0] 36)::PS pb cb lp lcap L k (A2++B),SubA.both hdB.right (SubA.left _ _), ?_⟩
  simp only[PS,pB,C5,Ck]at sM⊢
  intro ν fr;have nuE:=And.intro (fr.mem (b:=n5) (by simp)) (And.intro (fr.mem (b:=n3) (by simp)) (And.intro (fr.mem (b:=n2) (by simp)) (fr.nu)))
  simp (maxDischargeDepth:=16) only[AX,↓AW,simprocAttr,forall_const,nuE,fr.2,CD,dst_,eq_true sM,eq_false e32,eq_false e32.symm]
  exact⟨Ee 8 t t2,k,⟨8,eB,eB,0,p',2,c'⟩,A2++B,.cmO hq ho hq2,rfl,((hr.mono hs2).mono hs3).two (hr2.mono hs3) (hS'.mono dBA.symm.right),hk,SubA.trans (SubA.trans hs hs2) hs3,hp3,SubA.fresh (AK (by simp[dst_]) (AK (by simp[dst_]) (AJ gA5 n55))) (SubA.fresh (AK (eq_false e32.symm) (AJ g23 n53)) (SubA.fresh (AJ g22 n52) (SubA.refl _)))⟩
 | false=>
  refine AZ.to (AZ.of (X:=fun _ _=>False) (FU pb cb lp lcap L A' hp' j x hx _ h1)) (SubA.fresh (AK (eq_false e32.symm) g3) (SubA.fresh g2 (SubA.refl _))) [(n3,_),(n2,_)] (SubA.left [_,_] _) (dis2 g3 g2) (fun ch D h=>h.elim) ?_
  rintro v D ⟨rfl,hD⟩ dD
  refine⟨_,SubA.front dD hD, ?_⟩
  clear nuE fr
  simp only[List.cons_append,List.nil_append]
  intro ν fr;have nuE:=And.intro (fr.mem (b:=n3) (by simp)) (And.intro (fr.mem (b:=n2) (by simp)) (fr.nu))
  simp (maxDischargeDepth:=16) only[AX,↓AW,simprocAttr,forall_const,nuE,fr.2,CD,dst_,m1,m2,m3,m4,m5,m6,m7,m8,hp'.ne,hp'.en]
  clear hD dD D
  cases h2:BX x 4 ⟨#[33,61]⟩with
  |true=>
   refine AZ.to (AZ.of (X:=fun _ _=>False) (FV pb cb lp lcap L A' hp' j x hx _ h2)) (SubA.fresh (AK (eq_false e32.symm) g3) (SubA.fresh g2 (SubA.refl _))) [(n3,_),(n2,_)] (SubA.left [_,_] _) (dis2 g3 g2) (fun ch D h=>h.elim) ?_
   rintro v D ⟨rfl,hD⟩ dD
   refine⟨_,SubA.front dD hD, ?_⟩
   clear nuE fr
   simp only[List.cons_append,List.nil_append]
   intro ν fr;have nuE:=And.intro (fr.mem (b:=n3) (by simp)) (And.intro (fr.mem (b:=n2) (by simp)) (fr.nu))
   simp (maxDischargeDepth:=16) only[AX,↓AW,simprocAttr,forall_const,nuE,fr.2,CD,dst_,m1,m2,m3,m4,m5,m6,m7,m8,hp'.ne,hp'.en]
   obtain⟨hn1,hn2⟩:=DP hp'.he hx (by rw[Bu h2];decide)
   have ho:Hf (BR L j)=some 9:=by rw[hlx];unfold Hf;simp[h1,h2]
   rw[hn1]
   refine CO.plan [(0,0),(1,0),(2,0),(3,2),(4,1),(5,2)] [(n3,.cells #[.int .i64 r.op,.string r.nm,.string r.tx,.int .i64 r.n,.slice r.p r.len r.cap] 36)] (SubA.left [_] _) (by kernel_rfl) (by kernel_rfl) (by kernel_rfl) (by kernel_rfl) (by kernel_rfl) (by kernel_rfl) ?_
   clear nuE fr hD dD D
   intro ν fr;have nuE:=And.intro (fr.mem (b:=n3) (by simp)) (And.intro (fr.mem (b:=n2) (by simp)) (fr.nu))
   simp (maxDischargeDepth:=16) only[AX,↓AW,simprocAttr,forall_const,nuE,fr.2,CD,dst_,m1,m2,m3,m4,m5,m6,m7,m8,hp'.ne,hp'.en]
   refine AZ.to (hun (j+1) A' (by omega) hn2 hp') (SubA.fresh (AK (eq_false e32.symm) (Ao g3)) (SubA.fresh (Ao g2) (SubA.refl _))) [(n3,_),(n2,_)] (SubA.left [_,_] _) (dis2 (Ao g3) (Ao g2)) (fun ch D h dD=>⟨D,SubA.left _ _,h.mono hs fun e k h=>.cmF hq ho h⟩) ?_
   rintro v D ⟨t2,k,r2,A2,hq2,rfl,hr2,hk,hs2,hp2,hD⟩ dD
   refine⟨_,SubA.front dD hD, ?_⟩
   have g23:Vm.AA (PS pb cb lp lcap L k A2) n3=none:=hD.none (dD n3 (by simp[Vm.AA]))
   have g22:Vm.AA (PS pb cb lp lcap L k A2) n2=none:=hD.none (dD n2 (by simp[Vm.AA,e32]))
   clear nuE fr
   simp only[PS,pB,List.cons_append,List.nil_append,C5,Ck]
   intro ν fr;have nuE:=And.intro (fr.mem (b:=n3) (by simp)) (And.intro (fr.mem (b:=n2) (by simp)) (fr.nu))
   have g5:Vm.AA ((n3,_)::(n2,_)::PS pb cb lp lcap L k A2) (ν 0)=none:=fr.2 0
   simp (maxDischargeDepth:=16) only[AX,↓AW,simprocAttr,forall_const,nuE,fr.2,CD,F5]
   have dst_:((ν 0=n3)=False)∧((ν 0=n2)=False)∧((n3=ν 0)=False)∧((n2=ν 0)=False):=(by simp[nuE]);generalize ν 0=n5 at dst_  g5⊢
   clear nuE fr dD hD D
   refine AZ.of (AM.newX (Du ((n5,.cells #[.int .i64 r.op,.string r.nm,.string r.tx,.int .i64 r.n,.slice r.p r.len r.cap,.int .i64 r2.op,.string r2.nm,.string r2.tx,.int .i64 r2.n,.slice r2.p r2.len r2.cap] 36)::(n3,.cells #[.int .i64 r.op,.string r.nm,.string r.tx,.int .i64 r.n,.slice r.p r.len r.cap] 36)::(n2,.cells #[.int .i64 0,.string ⟨#[]⟩,.string ⟨#[]⟩,.int .i64 0,.slice none 0 0] 36)::PS pb cb lp lcap L k A2) 9 [r,r2] (some ⟨n5,0,none⟩) 2 (FW n5 _ r r2 _) (by simp)) (SubA.refl _) ?_)
   rintro v B ⟨p',c',rfl,hS'⟩ hdB
   have s5:SubA (PS pb cb lp lcap L k A2) ((n5,.cells #[.int .i64 r.op,.string r.nm,.string r.tx,.int .i64 r.n,.slice r.p r.len r.cap,.int .i64 r2.op,.string r2.nm,.string r2.tx,.int .i64 r2.n,.slice r2.p r2.len r2.cap] 36)::(n3,.cells #[.int .i64 r.op,.string r.nm,.string r.tx,.int .i64 r.n,.slice r.p r.len r.cap] 36)::(n2,.cells #[.int .i64 0,.string ⟨#[]⟩,.string ⟨#[]⟩,.int .i64 0,.slice none 0 0] 36)::PS pb cb lp lcap L k A2):=SubA.fresh g5 (SubA.fresh (AK (eq_false e32.symm) g23) (SubA.fresh g22 (SubA.refl _)))
   have hp3:=hp2.app hdB s5
   have hs3:SubA A2 (A2++B):=SubA.left _ _
   have n53:Vm.AA B n3=none:=hdB n3 (by simp[Vm.AA,dst_])
   have n52:Vm.AA B n2=none:=hdB n2 (by simp[Vm.AA,dst_,e32])
   have n55:Vm.AA B n5=none:=hdB n5 (by simp[Vm.AA])
   have gA5:Vm.AA (PS pb cb lp lcap L k A2) n5=none:=(SubA.fresh (AK (eq_false e32.symm) g23) (SubA.fresh g22 (SubA.refl _))).none g5
   have dBA:Dis B A2:=Dis.subr hdB (SubA.trans (show SubA A2 (PS pb cb lp lcap L k A2) from SubA.skip (by simp[Vm.AA,hp2.nc,hp2.ne]) (SubA.skip hp2.np (SubA.refl _))) s5)
   have sM:SubA ((n5,.cells #[.int .i64 r.op,.string r.nm,.string r.tx,.int .i64 r.n,.slice r.p r.len r.cap,.int .i64 r2.op,.string r2.nm,.string r2.tx,.int .i64 r2.n,.slice r2.p r2.len r2.cap] 36)::(n3,.cells #[.int .i64 r.op,.string r.nm,.string r.tx,.int .i64 r.n,.slice r.p r.len r.cap] 36)::(n2,.cells #[.int .i64 0,.string ⟨#[]⟩,.string ⟨#[]⟩,.int .i64 0,.slice none 0 0] 36)::PS pb cb lp lcap L k A2) ((n5,.cells #[.int .i64 r.op,.string r.nm,.string r.tx,.int .i64 r.n,.slice r.p r.len r.cap,.int .i64 r2.op,.string r2.nm,.string r2.tx,.int .i64 r2.n,.slice r2.p r2.len r2.cap] 36)::(n3,.cells #[.int .i64 r.op,.string r.nm,.string r.tx,.int .i64 r.n,.slice r.p r.len r.cap] 36)::(n2,.cells #[.int .i64 0,.string ⟨#[]⟩,.string ⟨#[]⟩,.int .i64 0,.slice none 0 0] 36)::PS pb cb lp lcap L k (A2++B)):=SubA.left _ B
   refine⟨(n5,.cells #[.int .i64 r.op,.string r.nm,.string r.tx,.int .i64 r.n,.slice r.p r.len r.cap,.int .i64 r2.op,.string r2.nm,.string r2.tx,.int .i64 r2.n,.slice r2.p r2.len r2.cap] 36)::(n3,.cells #[.int .i64 r.op,.string r.nm,.string r.tx,.int .i64 r.n,.slice r.p r.len r.cap] 36)::(n2,.cells #[.int .i64 0,.string ⟨#[]⟩,.string ⟨#[]⟩,.int .i64 0,.slice none 0 0] 36)::PS pb cb lp lcap L k (A2++B),SubA.both hdB.right (SubA.left _ _), ?_⟩
   simp only[PS,pB,C5,Ck]at sM⊢
   intro ν fr;have nuE:=And.intro (fr.mem (b:=n5) (by simp)) (And.intro (fr.mem (b:=n3) (by simp)) (And.intro (fr.mem (b:=n2) (by simp)) (fr.nu)))
   simp (maxDischargeDepth:=16) only[AX,↓AW,simprocAttr,forall_const,nuE,fr.2,CD,dst_,eq_true sM,eq_false e32,eq_false e32.symm]
   exact⟨Ee 9 t t2,k,⟨9,eB,eB,0,p',2,c'⟩,A2++B,.cmO hq ho hq2,rfl,((hr.mono hs2).mono hs3).two (hr2.mono hs3) (hS'.mono dBA.symm.right),hk,SubA.trans (SubA.trans hs hs2) hs3,hp3,SubA.fresh (AK (by simp[dst_]) (AK (by simp[dst_]) (AJ gA5 n55))) (SubA.fresh (AK (eq_false e32.symm) (AJ g23 n53)) (SubA.fresh (AJ g22 n52) (SubA.refl _)))⟩
  | false=>
   refine AZ.to (AZ.of (X:=fun _ _=>False) (FU pb cb lp lcap L A' hp' j x hx _ h2)) (SubA.fresh (AK (eq_false e32.symm) g3) (SubA.fresh g2 (SubA.refl _))) [(n3,_),(n2,_)] (SubA.left [_,_] _) (dis2 g3 g2) (fun ch D h=>h.elim) ?_
   rintro v D ⟨rfl,hD⟩ dD
   refine⟨_,SubA.front dD hD, ?_⟩
   clear nuE fr
   simp only[List.cons_append,List.nil_append]
   intro ν fr;have nuE:=And.intro (fr.mem (b:=n3) (by simp)) (And.intro (fr.mem (b:=n2) (by simp)) (fr.nu))
   simp (maxDischargeDepth:=16) only[AX,↓AW,simprocAttr,forall_const,nuE,fr.2,CD,dst_,m1,m2,m3,m4,m5,m6,m7,m8,hp'.ne,hp'.en]
   clear hD dD D
   cases h3:BX x 4 ⟨#[60]⟩with
   |true=>
    refine AZ.to (AZ.of (X:=fun _ _=>False) (FV pb cb lp lcap L A' hp' j x hx _ h3)) (SubA.fresh (AK (eq_false e32.symm) g3) (SubA.fresh g2 (SubA.refl _))) [(n3,_),(n2,_)] (SubA.left [_,_] _) (dis2 g3 g2) (fun ch D h=>h.elim) ?_
    rintro v D ⟨rfl,hD⟩ dD
    refine⟨_,SubA.front dD hD, ?_⟩
    clear nuE fr
    simp only[List.cons_append,List.nil_append]
    intro ν fr;have nuE:=And.intro (fr.mem (b:=n3) (by simp)) (And.intro (fr.mem (b:=n2) (by simp)) (fr.nu))
    simp (maxDischargeDepth:=16) only[AX,↓AW,simprocAttr,forall_const,nuE,fr.2,CD,dst_,m1,m2,m3,m4,m5,m6,m7,m8,hp'.ne,hp'.en]
    obtain⟨hn1,hn2⟩:=DP hp'.he hx (by rw[Bu h3];decide)
    have ho:Hf (BR L j)=some 10:=by rw[hlx];unfold Hf;simp[h1,h2,h3]
    rw[hn1]
    refine CO.plan [(0,0),(1,0),(2,0),(3,2),(4,1),(5,2)] [(n3,.cells #[.int .i64 r.op,.string r.nm,.string r.tx,.int .i64 r.n,.slice r.p r.len r.cap] 36)] (SubA.left [_] _) (by kernel_rfl) (by kernel_rfl) (by kernel_rfl) (by kernel_rfl) (by kernel_rfl) (by kernel_rfl) ?_
    clear nuE fr hD dD D
    intro ν fr;have nuE:=And.intro (fr.mem (b:=n3) (by simp)) (And.intro (fr.mem (b:=n2) (by simp)) (fr.nu))
    simp (maxDischargeDepth:=16) only[AX,↓AW,simprocAttr,forall_const,nuE,fr.2,CD,dst_,m1,m2,m3,m4,m5,m6,m7,m8,hp'.ne,hp'.en]
    refine AZ.to (hun (j+1) A' (by omega) hn2 hp') (SubA.fresh (AK (eq_false e32.symm) (Ao g3)) (SubA.fresh (Ao g2) (SubA.refl _))) [(n3,_),(n2,_)] (SubA.left [_,_] _) (dis2 (Ao g3) (Ao g2)) (fun ch D h dD=>⟨D,SubA.left _ _,h.mono hs fun e k h=>.cmF hq ho h⟩) ?_
    rintro v D ⟨t2,k,r2,A2,hq2,rfl,hr2,hk,hs2,hp2,hD⟩ dD
    refine⟨_,SubA.front dD hD, ?_⟩
    have g23:Vm.AA (PS pb cb lp lcap L k A2) n3=none:=hD.none (dD n3 (by simp[Vm.AA]))
    have g22:Vm.AA (PS pb cb lp lcap L k A2) n2=none:=hD.none (dD n2 (by simp[Vm.AA,e32]))
    clear nuE fr
    simp only[PS,pB,List.cons_append,List.nil_append,C5,Ck]
    intro ν fr;have nuE:=And.intro (fr.mem (b:=n3) (by simp)) (And.intro (fr.mem (b:=n2) (by simp)) (fr.nu))
    have g5:Vm.AA ((n3,_)::(n2,_)::PS pb cb lp lcap L k A2) (ν 0)=none:=fr.2 0
    simp (maxDischargeDepth:=16) only[AX,↓AW,simprocAttr,forall_const,nuE,fr.2,CD,F5]
    have dst_:((ν 0=n3)=False)∧((ν 0=n2)=False)∧((n3=ν 0)=False)∧((n2=ν 0)=False):=(by simp[nuE]);generalize ν 0=n5 at dst_  g5⊢
    clear nuE fr dD hD D
    refine AZ.of (AM.newX (Du ((n5,.cells #[.int .i64 r.op,.string r.nm,.string r.tx,.int .i64 r.n,.slice r.p r.len r.cap,.int .i64 r2.op,.string r2.nm,.string r2.tx,.int .i64 r2.n,.slice r2.p r2.len r2.cap] 36)::(n3,.cells #[.int .i64 r.op,.string r.nm,.string r.tx,.int .i64 r.n,.slice r.p r.len r.cap] 36)::(n2,.cells #[.int .i64 0,.string ⟨#[]⟩,.string ⟨#[]⟩,.int .i64 0,.slice none 0 0] 36)::PS pb cb lp lcap L k A2) 10 [r,r2] (some ⟨n5,0,none⟩) 2 (FW n5 _ r r2 _) (by simp)) (SubA.refl _) ?_)
    rintro v B ⟨p',c',rfl,hS'⟩ hdB
    have s5:SubA (PS pb cb lp lcap L k A2) ((n5,.cells #[.int .i64 r.op,.string r.nm,.string r.tx,.int .i64 r.n,.slice r.p r.len r.cap,.int .i64 r2.op,.string r2.nm,.string r2.tx,.int .i64 r2.n,.slice r2.p r2.len r2.cap] 36)::(n3,.cells #[.int .i64 r.op,.string r.nm,.string r.tx,.int .i64 r.n,.slice r.p r.len r.cap] 36)::(n2,.cells #[.int .i64 0,.string ⟨#[]⟩,.string ⟨#[]⟩,.int .i64 0,.slice none 0 0] 36)::PS pb cb lp lcap L k A2):=SubA.fresh g5 (SubA.fresh (AK (eq_false e32.symm) g23) (SubA.fresh g22 (SubA.refl _)))
    have hp3:=hp2.app hdB s5
    have hs3:SubA A2 (A2++B):=SubA.left _ _
    have n53:Vm.AA B n3=none:=hdB n3 (by simp[Vm.AA,dst_])
    have n52:Vm.AA B n2=none:=hdB n2 (by simp[Vm.AA,dst_,e32])
    have n55:Vm.AA B n5=none:=hdB n5 (by simp[Vm.AA])
    have gA5:Vm.AA (PS pb cb lp lcap L k A2) n5=none:=(SubA.fresh (AK (eq_false e32.symm) g23) (SubA.fresh g22 (SubA.refl _))).none g5
    have dBA:Dis B A2:=Dis.subr hdB (SubA.trans (show SubA A2 (PS pb cb lp lcap L k A2) from SubA.skip (by simp[Vm.AA,hp2.nc,hp2.ne]) (SubA.skip hp2.np (SubA.refl _))) s5)
    have sM:SubA ((n5,.cells #[.int .i64 r.op,.string r.nm,.string r.tx,.int .i64 r.n,.slice r.p r.len r.cap,.int .i64 r2.op,.string r2.nm,.string r2.tx,.int .i64 r2.n,.slice r2.p r2.len r2.cap] 36)::(n3,.cells #[.int .i64 r.op,.string r.nm,.string r.tx,.int .i64 r.n,.slice r.p r.len r.cap] 36)::(n2,.cells #[.int .i64 0,.string ⟨#[]⟩,.string ⟨#[]⟩,.int .i64 0,.slice none 0 0] 36)::PS pb cb lp lcap L k A2) ((n5,.cells #[.int .i64 r.op,.string r.nm,.string r.tx,.int .i64 r.n,.slice r.p r.len r.cap,.int .i64 r2.op,.string r2.nm,.string r2.tx,.int .i64 r2.n,.slice r2.p r2.len r2.cap] 36)::(n3,.cells #[.int .i64 r.op,.string r.nm,.string r.tx,.int .i64 r.n,.slice r.p r.len r.cap] 36)::(n2,.cells #[.int .i64 0,.string ⟨#[]⟩,.string ⟨#[]⟩,.int .i64 0,.slice none 0 0] 36)::PS pb cb lp lcap L k (A2++B)):=SubA.left _ B
    refine⟨(n5,.cells #[.int .i64 r.op,.string r.nm,.string r.tx,.int .i64 r.n,.slice r.p r.len r.cap,.int .i64 r2.op,.string r2.nm,.string r2.tx,.int .i64 r2.n,.slice r2.p r2.len r2.cap] 36)::(n3,.cells #[.int .i64 r.op,.string r.nm,.string r.tx,.int .i64 r.n,.slice r.p r.len r.cap] 36)::(n2,.cells #[.int .i64 0,.string ⟨#[]⟩,.string ⟨#[]⟩,.int .i64 0,.slice none 0 0] 36)::PS pb cb lp lcap L k (A2++B),SubA.both hdB.right (SubA.left _ _), ?_⟩
    simp only[PS,pB,C5,Ck]at sM⊢
    intro ν fr;have nuE:=And.intro (fr.mem (b:=n5) (by simp)) (And.intro (fr.mem (b:=n3) (by simp)) (And.intro (fr.mem (b:=n2) (by simp)) (fr.nu)))
    simp (maxDischargeDepth:=16) only[AX,↓AW,simprocAttr,forall_const,nuE,fr.2,CD,dst_,eq_true sM,eq_false e32,eq_false e32.symm]
    exact⟨Ee 10 t t2,k,⟨10,eB,eB,0,p',2,c'⟩,A2++B,.cmO hq ho hq2,rfl,((hr.mono hs2).mono hs3).two (hr2.mono hs3) (hS'.mono dBA.symm.right),hk,SubA.trans (SubA.trans hs hs2) hs3,hp3,SubA.fresh (AK (by simp[dst_]) (AK (by simp[dst_]) (AJ gA5 n55))) (SubA.fresh (AK (eq_false e32.symm) (AJ g23 n53)) (SubA.fresh (AJ g22 n52) (SubA.refl _)))⟩
   | false=>
    refine AZ.to (AZ.of (X:=fun _ _=>False) (FU pb cb lp lcap L A' hp' j x hx _ h3)) (SubA.fresh (AK (eq_false e32.symm) g3) (SubA.fresh g2 (SubA.refl _))) [(n3,_),(n2,_)] (SubA.left [_,_] _) (dis2 g3 g2) (fun ch D h=>h.elim) ?_
    rintro v D ⟨rfl,hD⟩ dD
    refine⟨_,SubA.front dD hD, ?_⟩
    clear nuE fr
    simp only[List.cons_append,List.nil_append]
    intro ν fr;have nuE:=And.intro (fr.mem (b:=n3) (by simp)) (And.intro (fr.mem (b:=n2) (by simp)) (fr.nu))
    simp (maxDischargeDepth:=16) only[AX,↓AW,simprocAttr,forall_const,nuE,fr.2,CD,dst_,m1,m2,m3,m4,m5,m6,m7,m8,hp'.ne,hp'.en]
    clear hD dD D
    cases h4:BX x 4 ⟨#[60,61]⟩with
    |true=>
     refine AZ.to (AZ.of (X:=fun _ _=>False) (FV pb cb lp lcap L A' hp' j x hx _ h4)) (SubA.fresh (AK (eq_false e32.symm) g3) (SubA.fresh g2 (SubA.refl _))) [(n3,_),(n2,_)] (SubA.left [_,_] _) (dis2 g3 g2) (fun ch D h=>h.elim) ?_
     rintro v D ⟨rfl,hD⟩ dD
     refine⟨_,SubA.front dD hD, ?_⟩
     clear nuE fr
     simp only[List.cons_append,List.nil_append]
     intro ν fr;have nuE:=And.intro (fr.mem (b:=n3) (by simp)) (And.intro (fr.mem (b:=n2) (by simp)) (fr.nu))
     simp (maxDischargeDepth:=16) only[AX,↓AW,simprocAttr,forall_const,nuE,fr.2,CD,dst_,m1,m2,m3,m4,m5,m6,m7,m8,hp'.ne,hp'.en]
     obtain⟨hn1,hn2⟩:=DP hp'.he hx (by rw[Bu h4];decide)
     have ho:Hf (BR L j)=some 11:=by rw[hlx];unfold Hf;simp[h1,h2,h3,h4]
     rw[hn1]
     refine CO.plan [(0,0),(1,0),(2,0),(3,2),(4,1),(5,2)] [(n3,.cells #[.int .i64 r.op,.string r.nm,.string r.tx,.int .i64 r.n,.slice r.p r.len r.cap] 36)] (SubA.left [_] _) (by kernel_rfl) (by kernel_rfl) (by kernel_rfl) (by kernel_rfl) (by kernel_rfl) (by kernel_rfl) ?_
     clear nuE fr hD dD D
     intro ν fr;have nuE:=And.intro (fr.mem (b:=n3) (by simp)) (And.intro (fr.mem (b:=n2) (by simp)) (fr.nu))
     simp (maxDischargeDepth:=16) only[AX,↓AW,simprocAttr,forall_const,nuE,fr.2,CD,dst_,m1,m2,m3,m4,m5,m6,m7,m8,hp'.ne,hp'.en]
     refine AZ.to (hun (j+1) A' (by omega) hn2 hp') (SubA.fresh (AK (eq_false e32.symm) (Ao g3)) (SubA.fresh (Ao g2) (SubA.refl _))) [(n3,_),(n2,_)] (SubA.left [_,_] _) (dis2 (Ao g3) (Ao g2)) (fun ch D h dD=>⟨D,SubA.left _ _,h.mono hs fun e k h=>.cmF hq ho h⟩) ?_
     rintro v D ⟨t2,k,r2,A2,hq2,rfl,hr2,hk,hs2,hp2,hD⟩ dD
     refine⟨_,SubA.front dD hD, ?_⟩
     have g23:Vm.AA (PS pb cb lp lcap L k A2) n3=none:=hD.none (dD n3 (by simp[Vm.AA]))
     have g22:Vm.AA (PS pb cb lp lcap L k A2) n2=none:=hD.none (dD n2 (by simp[Vm.AA,e32]))
     clear nuE fr
     simp only[PS,pB,List.cons_append,List.nil_append,C5,Ck]
     intro ν fr;have nuE:=And.intro (fr.mem (b:=n3) (by simp)) (And.intro (fr.mem (b:=n2) (by simp)) (fr.nu))
     have g5:Vm.AA ((n3,_)::(n2,_)::PS pb cb lp lcap L k A2) (ν 0)=none:=fr.2 0
     simp (maxDischargeDepth:=16) only[AX,↓AW,simprocAttr,forall_const,nuE,fr.2,CD,F5]
     have dst_:((ν 0=n3)=False)∧((ν 0=n2)=False)∧((n3=ν 0)=False)∧((n2=ν 0)=False):=(by simp[nuE]);generalize ν 0=n5 at dst_  g5⊢
     clear nuE fr dD hD D
     refine AZ.of (AM.newX (Du ((n5,.cells #[.int .i64 r.op,.string r.nm,.string r.tx,.int .i64 r.n,.slice r.p r.len r.cap,.int .i64 r2.op,.string r2.nm,.string r2.tx,.int .i64 r2.n,.slice r2.p r2.len r2.cap] 36)::(n3,.cells #[.int .i64 r.op,.string r.nm,.string r.tx,.int .i64 r.n,.slice r.p r.len r.cap] 36)::(n2,.cells #[.int .i64 0,.string ⟨#[]⟩,.string ⟨#[]⟩,.int .i64 0,.slice none 0 0] 36)::PS pb cb lp lcap L k A2) 11 [r,r2] (some ⟨n5,0,none⟩) 2 (FW n5 _ r r2 _) (by simp)) (SubA.refl _) ?_)
     rintro v B ⟨p',c',rfl,hS'⟩ hdB
     have s5:SubA (PS pb cb lp lcap L k A2) ((n5,.cells #[.int .i64 r.op,.string r.nm,.string r.tx,.int .i64 r.n,.slice r.p r.len r.cap,.int .i64 r2.op,.string r2.nm,.string r2.tx,.int .i64 r2.n,.slice r2.p r2.len r2.cap] 36)::(n3,.cells #[.int .i64 r.op,.string r.nm,.string r.tx,.int .i64 r.n,.slice r.p r.len r.cap] 36)::(n2,.cells #[.int .i64 0,.string ⟨#[]⟩,.string ⟨#[]⟩,.int .i64 0,.slice none 0 0] 36)::PS pb cb lp lcap L k A2):=SubA.fresh g5 (SubA.fresh (AK (eq_false e32.symm) g23) (SubA.fresh g22 (SubA.refl _)))
     have hp3:=hp2.app hdB s5
     have hs3:SubA A2 (A2++B):=SubA.left _ _
     have n53:Vm.AA B n3=none:=hdB n3 (by simp[Vm.AA,dst_])
     have n52:Vm.AA B n2=none:=hdB n2 (by simp[Vm.AA,dst_,e32])
     have n55:Vm.AA B n5=none:=hdB n5 (by simp[Vm.AA])
     have gA5:Vm.AA (PS pb cb lp lcap L k A2) n5=none:=(SubA.fresh (AK (eq_false e32.symm) g23) (SubA.fresh g22 (SubA.refl _))).none g5
     have dBA:Dis B A2:=Dis.subr hdB (SubA.trans (show SubA A2 (PS pb cb lp lcap L k A2) from SubA.skip (by simp[Vm.AA,hp2.nc,hp2.ne]) (SubA.skip hp2.np (SubA.refl _))) s5)
     have sM:SubA ((n5,.cells #[.int .i64 r.op,.string r.nm,.string r.tx,.int .i64 r.n,.slice r.p r.len r.cap,.int .i64 r2.op,.string r2.nm,.string r2.tx,.int .i64 r2.n,.slice r2.p r2.len r2.cap] 36)::(n3,.cells #[.int .i64 r.op,.string r.nm,.string r.tx,.int .i64 r.n,.slice r.p r.len r.cap] 36)::(n2,.cells #[.int .i64 0,.string ⟨#[]⟩,.string ⟨#[]⟩,.int .i64 0,.slice none 0 0] 36)::PS pb cb lp lcap L k A2) ((n5,.cells #[.int .i64 r.op,.string r.nm,.string r.tx,.int .i64 r.n,.slice r.p r.len r.cap,.int .i64 r2.op,.string r2.nm,.string r2.tx,.int .i64 r2.n,.slice r2.p r2.len r2.cap] 36)::(n3,.cells #[.int .i64 r.op,.string r.nm,.string r.tx,.int .i64 r.n,.slice r.p r.len r.cap] 36)::(n2,.cells #[.int .i64 0,.string ⟨#[]⟩,.string ⟨#[]⟩,.int .i64 0,.slice none 0 0] 36)::PS pb cb lp lcap L k (A2++B)):=SubA.left _ B
     refine⟨(n5,.cells #[.int .i64 r.op,.string r.nm,.string r.tx,.int .i64 r.n,.slice r.p r.len r.cap,.int .i64 r2.op,.string r2.nm,.string r2.tx,.int .i64 r2.n,.slice r2.p r2.len r2.cap] 36)::(n3,.cells #[.int .i64 r.op,.string r.nm,.string r.tx,.int .i64 r.n,.slice r.p r.len r.cap] 36)::(n2,.cells #[.int .i64 0,.string ⟨#[]⟩,.string ⟨#[]⟩,.int .i64 0,.slice none 0 0] 36)::PS pb cb lp lcap L k (A2++B),SubA.both hdB.right (SubA.left _ _), ?_⟩
     simp only[PS,pB,C5,Ck]at sM⊢
     intro ν fr;have nuE:=And.intro (fr.mem (b:=n5) (by simp)) (And.intro (fr.mem (b:=n3) (by simp)) (And.intro (fr.mem (b:=n2) (by simp)) (fr.nu)))
     simp (maxDischargeDepth:=16) only[AX,↓AW,simprocAttr,forall_const,nuE,fr.2,CD,dst_,eq_true sM,eq_false e32,eq_false e32.symm]
     exact⟨Ee 11 t t2,k,⟨11,eB,eB,0,p',2,c'⟩,A2++B,.cmO hq ho hq2,rfl,((hr.mono hs2).mono hs3).two (hr2.mono hs3) (hS'.mono dBA.symm.right),hk,SubA.trans (SubA.trans hs hs2) hs3,hp3,SubA.fresh (AK (by simp[dst_]) (AK (by simp[dst_]) (AJ gA5 n55))) (SubA.fresh (AK (eq_false e32.symm) (AJ g23 n53)) (SubA.fresh (AJ g22 n52) (SubA.refl _)))⟩
    | false=>
     refine AZ.to (AZ.of (X:=fun _ _=>False) (FU pb cb lp lcap L A' hp' j x hx _ h4)) (SubA.fresh (AK (eq_false e32.symm) g3) (SubA.fresh g2 (SubA.refl _))) [(n3,_),(n2,_)] (SubA.left [_,_] _) (dis2 g3 g2) (fun ch D h=>h.elim) ?_
     rintro v D ⟨rfl,hD⟩ dD
     refine⟨_,SubA.front dD hD, ?_⟩
     clear nuE fr
     simp only[List.cons_append,List.nil_append]
     intro ν fr;have nuE:=And.intro (fr.mem (b:=n3) (by simp)) (And.intro (fr.mem (b:=n2) (by simp)) (fr.nu))
     simp (maxDischargeDepth:=16) only[AX,↓AW,simprocAttr,forall_const,nuE,fr.2,CD,dst_,m1,m2,m3,m4,m5,m6,m7,m8,hp'.ne,hp'.en]
     clear hD dD D
     have hc:Hf (BR L j)=none:=by rw[hlx];unfold Hf;simp[h1,h2,h3,h4]
     cases h5:BX x 1 ⟨#[105,110]⟩with
     |true=>
      have hb:W4 (BR L j)=true:=by rw[hlx];exact h5
      obtain⟨hn1,hn2⟩:=DP hp'.he hx (by rw[Bu h5];decide)
      refine AZ.to (AZ.of (X:=fun _ _=>False) (Ju pb cb lp lcap L A' hp' j x hx _ h5)) (SubA.fresh (AK (eq_false e32.symm) g3) (SubA.fresh g2 (SubA.refl _))) [(n3,_),(n2,_)] (SubA.left [_,_] _) (dis2 g3 g2) (fun ch D h=>h.elim) ?_
      rintro v D ⟨rfl,hD⟩ dD
      refine⟨_,SubA.front dD hD, ?_⟩
      clear nuE fr
      simp only[List.cons_append,List.nil_append]
      intro ν fr;have nuE:=And.intro (fr.mem (b:=n3) (by simp)) (And.intro (fr.mem (b:=n2) (by simp)) (fr.nu))
      simp (maxDischargeDepth:=16) only[AX,↓AW,simprocAttr,forall_const,nuE,fr.2,CD,dst_,m1,m2,m3,m4,m5,m6,m7,m8,hp'.ne,hp'.en]
      rw[hn1]
      clear hD dD D nuE fr
      refine AZ.to (hch (j+1) A' t r (by omega) hn2 hp' hr) (SubA.fresh (AK (eq_false e32.symm) (Ao g3)) (SubA.fresh (Ao g2) (SubA.refl _))) [(n3,_),(n2,_)] (SubA.left [_,_] _) (dis2 (Ao g3) (Ao g2)) (fun ch D h dD=>⟨D,SubA.left _ _,h.mono hs fun e k h=>YP.to hq hc hb h⟩) ?_
      rintro v D ⟨t2,k,r2,A2,hq2,rfl,hr2,hk,hs2,hp2,hD⟩ dD
      refine⟨_,SubA.front dD hD, ?_⟩
      have g23:Vm.AA (PS pb cb lp lcap L k A2) n3=none:=hD.none (dD n3 (by simp[Vm.AA]))
      have g22:Vm.AA (PS pb cb lp lcap L k A2) n2=none:=hD.none (dD n2 (by simp[Vm.AA,e32]))
      simp only[List.cons_append,List.nil_append,C5,Ck]
      intro ν fr;have nuE:=And.intro (fr.mem (b:=n3) (by simp)) (And.intro (fr.mem (b:=n2) (by simp)) (fr.nu))
      simp (maxDischargeDepth:=16) only[AX,↓AW,simprocAttr,forall_const,nuE,fr.2,CD,dst_]
      exact⟨t2,k,r2,A2,YP.to hq hc hb hq2,rfl,hr2,hk,SubA.trans hs hs2,hp2,SubA.fresh (AK (eq_false e32.symm) g23) (SubA.fresh g22 (SubA.refl _))⟩
     |false=>
      have hb:W4 (BR L j)=false:=by rw[hlx];exact h5
      refine AZ.to (AZ.of (X:=fun _ _=>False) (J2 pb cb lp lcap L A' hp' j x hx _ h5)) (SubA.fresh (AK (eq_false e32.symm) g3) (SubA.fresh g2 (SubA.refl _))) [(n3,_),(n2,_)] (SubA.left [_,_] _) (dis2 g3 g2) (fun ch D h=>h.elim) ?_
      rintro v D ⟨rfl,hD⟩ dD
      refine⟨_,SubA.front dD hD, ?_⟩
      clear nuE fr
      simp only[List.cons_append,List.nil_append]
      intro ν fr;have nuE:=And.intro (fr.mem (b:=n3) (by simp)) (And.intro (fr.mem (b:=n2) (by simp)) (fr.nu))
      simp (maxDischargeDepth:=16) only[AX,↓AW,simprocAttr,forall_const,nuE,fr.2,CD,dst_,m1,m2,m3,m4,m5,m6,m7,m8,hp'.ne,hp'.en]
      exact⟨t,j,r,A',.cmN hq hc hb,rfl,hr,hj,hs,hp',SubA.fresh (AK (eq_false e32.symm) (Ao g3)) (SubA.fresh (Ao g2) (SubA.refl _))⟩
end Go.Proofs.YtfphceknmgadgaaGreatDoor
