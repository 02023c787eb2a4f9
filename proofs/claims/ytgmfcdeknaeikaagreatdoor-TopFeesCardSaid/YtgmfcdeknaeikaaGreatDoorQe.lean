/-
The parser: conjunctions, expressions, sums, operands, comparisons.
Conditions: none.
-/
import Derived.Test.YtgmfcdeknaeikaaGreatDoorQd
set_option linter.unusedSimpArgs false
set_option linter.unusedVariables false
namespace Go.Proofs.YtgmfcdeknaeikaaGreatDoor
open Go.Vm
set_option maxHeartbeats 4000000
set_option maxRecDepth 20000
theorem qq(x:LR):EP 1 x=if Aw x 1 ⟨#[97,110,100]⟩=true then some 6 else none:=rfl
theorem qp(x:LR):EP 0 x=if Aw x 1 ⟨#[111,114]⟩=true then some 7 else none:=rfl
theorem fd(pb cb:Nat)(lp:Option Addr)(lcap:Nat)(L:List LR)(A:AH)(hp:PsOk pb cb lp L A)(i:Nat)(hi:i<L.length)(hun: ∀k A',i≤k→k<L.length→PsOk pb cb lp L A'→Kq 177 2 pb cb lp lcap L A' k):AM Tryz.prog 147 #[.pointer (some ⟨pb,0,none⟩)] (PS pb cb lp lcap L i A) (K6 L A (Pr L (.lv 1) i)) (fun u_ A_=>eU pb cb lp lcap L A (Pr L (.lv 1) i) u_ A_):=by
 refine Ao ⟨Tryz.prog,147,Tryz.f147,17,[0,2,3],⟨[177,148,149],some (K6 L A (Pr L (.lv 1) i))⟩,[],_⟩ rfl (args:=[_]) Tryz.func147 rfl (by kernel_rfl) Tryz.ntmps147 (by simp) (by kernel_rfl) ?_
 intro ν fr
 have f0:=fr.2 0
 simp only[PS,pB]
 simp only[AF,↓AE,simprocAttr]
 have dst_:True:=(by simp[]);generalize ν 0=n2 at dst_  f0⊢
 clear fr dst_
 refine AM.to (hun i A (Nat.le_refl _) hi hp) (SubA.fresh f0 (SubA.refl _)) [(n2,_)] (SubA.left [_] _) (Dis.one f0).symm (fun ch D h dD=>⟨D,SubA.left _ _,h.mono (SubA.refl _) fun e j h=>.opE (by decide) (by decide) h⟩) ?_
 rintro v D ⟨t,j,r,A',hq,rfl,hr,hj,hs,hp',hD⟩ dD
 refine⟨_,SubA.front dD hD, ?_⟩
 have g2:Vm.AA (PS pb cb lp lcap L j A') n2=none:=hD.none (dD n2 (by simp[Vm.AA]))
 simp only[PS,pB,List.cons_append,List.nil_append]
 intro ν fr;have nuE:=fr.m1 rfl
 simp only[Bt,Ba]
 have f3:Vm.AA ((n2,_)::PS pb cb lp lcap L j A') (ν 0)=none:=fr.2 0
 simp only[AF,↓AE,simprocAttr]
 have dst_:((ν 0=n2)=False)∧((n2=ν 0)=False):=(by simp[nuE]);generalize ν 0=n3 at dst_  f3⊢
 clear nuE fr dD hD
 have e32:n3≠n2:=fun h=>by rw[h]at f3;simp[Vm.AA]at f3
 have g3:Vm.AA (PS pb cb lp lcap L j A') n3=none:=by simpa[Vm.AA,e32.symm]using f3
 clear f3 f0
 have hq': ∀z,Pr L (.lp 1 t) j z→Pr L (.lv 1) i z:=fun z hz=>.opO (by decide) (by decide) hq hz
 have hij:i≤j:=hq.le
 clear hq
 generalize hm:L.length - j=m
 induction m using Nat.strongRecOn generalizing t j r A' with
 | ind m ih=>
  obtain⟨x,hx,hlx⟩:=CA hj
  obtain⟨⟨m1,m2⟩,m3,m4⟩:=hp'.far g2
  obtain⟨⟨m5,m6⟩,m7,m8⟩:=hp'.far g3
  refine AR.intro (by kernel_rfl) ?_
  intro ν fr
  simp only[AF,↓AE,simprocAttr,m1,m5,hp'.en]
  cases hmk:Aw x 1 ⟨#[97,110,100]⟩with
  |true=>
   refine AM.to (AM.of (X:=fun _ _=>False) (Ka pb cb lp lcap L A' hp' j x hx _ hmk)) (SubA.fresh (AJ (eq_false e32.symm) g3) (SubA.fresh g2 (SubA.refl _))) [(n3,_),(n2,_)] (SubA.left [_,_] _) (dis2 g3 g2) (fun ch D h=>h.elim) ?_
   rintro v D ⟨rfl,hD⟩ dD
   refine⟨_,SubA.front dD hD, ?_⟩
   clear fr
   simp only[List.cons_append,List.nil_append]
   intro ν fr
   simp only[AF,↓AE,simprocAttr,dst_]
   obtain⟨hn1,hn2⟩:=Cj hp'.he hx (by rw[B0 hmk];decide)
   have ho:EP 1 (Af L j)=some 6:=by rw[hlx,qq,hmk];rfl
   rw[hn1]
   refine Av.plan [(0,0),(1,0),(2,0),(3,2),(4,1),(5,2)] [(n3,.cells #[.int .i64 r.op,.string r.nm,.string r.tx,.int .i64 r.n,.slice r.p r.len r.cap] 60)] (SubA.left [_] _) (by kernel_rfl) (by kernel_rfl) (by kernel_rfl) (by kernel_rfl) (by kernel_rfl) (by kernel_rfl) ?_
   clear fr hD dD D
   intro ν fr
   simp only[AF,↓AE,simprocAttr]
   refine AM.to (hun (j+1) A' (by omega) hn2 hp') (SubA.fresh (AJ (eq_false e32.symm) (AV g3)) (SubA.fresh (AV g2) (SubA.refl _))) [(n3,_),(n2,_)] (SubA.left [_,_] _) (dis2 (AV g3) (AV g2)) (fun ch D h dD=>⟨D,SubA.left _ _,h.mono hs fun e k h=>hq' _ (.lpE ho h)⟩) ?_
   rintro v D ⟨t2,k,r2,A2,hq2,rfl,hr2,hk,hs2,hp2,hD⟩ dD
   refine⟨_,SubA.front dD hD, ?_⟩
   have g23:Vm.AA (PS pb cb lp lcap L k A2) n3=none:=hD.none (dD n3 (by simp[Vm.AA]))
   have g22:Vm.AA (PS pb cb lp lcap L k A2) n2=none:=hD.none (dD n2 (by simp[Vm.AA,e32]))
   clear fr
   simp only[PS,pB,List.cons_append,List.nil_append,Bt,Ba]
   intro ν fr;have nuE:=fr.m2 rfl
   have g5:Vm.AA ((n3,_)::(n2,_)::PS pb cb lp lcap L k A2) (ν 0)=none:=fr.2 0
   simp only[AF,↓AE,simprocAttr,Hc]
   have dst_:((ν 0=n3)=False)∧((ν 0=n2)=False)∧((n3=ν 0)=False)∧((n2=ν 0)=False):=(by simp[nuE]);generalize ν 0=n5 at dst_  g5⊢
   clear nuE fr dD hD D
   refine AM.of (AK.newX (Da ((n5,.cells #[.int .i64 r.op,.string r.nm,.string r.tx,.int .i64 r.n,.slice r.p r.len r.cap,.int .i64 r2.op,.string r2.nm,.string r2.tx,.int .i64 r2.n,.slice r2.p r2.len r2.cap] 60)::(n3,.cells #[.int .i64 r.op,.string r.nm,.string r.tx,.int .i64 r.n,.slice r.p r.len r.cap] 60)::(n2,.cells #[.int .i64 0,.string ⟨#[]⟩,.string ⟨#[]⟩,.int .i64 0,.slice none 0 0] 60)::PS pb cb lp lcap L k A2) 6 [r,r2] (some ⟨n5,0,none⟩) 2 (GY n5 _ r r2 _) (by simp)) (SubA.refl _) ?_)
   rintro v B ⟨p',c',rfl,hS'⟩ hdB
   have s5:SubA (PS pb cb lp lcap L k A2) ((n5,.cells #[.int .i64 r.op,.string r.nm,.string r.tx,.int .i64 r.n,.slice r.p r.len r.cap,.int .i64 r2.op,.string r2.nm,.string r2.tx,.int .i64 r2.n,.slice r2.p r2.len r2.cap] 60)::(n3,.cells #[.int .i64 r.op,.string r.nm,.string r.tx,.int .i64 r.n,.slice r.p r.len r.cap] 60)::(n2,.cells #[.int .i64 0,.string ⟨#[]⟩,.string ⟨#[]⟩,.int .i64 0,.slice none 0 0] 60)::PS pb cb lp lcap L k A2):=SubA.fresh g5 (SubA.fresh (AJ (eq_false e32.symm) g23) (SubA.fresh g22 (SubA.refl _)))
   have hp3:=hp2.app hdB s5
   have hs3:SubA A2 (A2++B):=SubA.left _ _
   have n53:Vm.AA B n3=none:=hdB n3 (by simp[Vm.AA,dst_])
   have n52:Vm.AA B n2=none:=hdB n2 (by simp[Vm.AA,dst_,e32])
   have n55:Vm.AA B n5=none:=hdB n5 (by simp[Vm.AA])
   have gA5:Vm.AA (PS pb cb lp lcap L k A2) n5=none:=(SubA.fresh (AJ (eq_false e32.symm) g23) (SubA.fresh g22 (SubA.refl _))).none g5
   have dBA:Dis B A2:=Dis.subr hdB (SubA.trans (show SubA A2 (PS pb cb lp lcap L k A2) from SubA.skip (by simp[hp2.nc]) (SubA.skip hp2.np (SubA.refl _))) s5)
   have sM:SubA ((n5,.cells #[.int .i64 r.op,.string r.nm,.string r.tx,.int .i64 r.n,.slice r.p r.len r.cap,.int .i64 r2.op,.string r2.nm,.string r2.tx,.int .i64 r2.n,.slice r2.p r2.len r2.cap] 60)::(n3,.cells #[.int .i64 r.op,.string r.nm,.string r.tx,.int .i64 r.n,.slice r.p r.len r.cap] 60)::(n2,.cells #[.int .i64 0,.string ⟨#[]⟩,.string ⟨#[]⟩,.int .i64 0,.slice none 0 0] 60)::PS pb cb lp lcap L k A2) ((n5,.cells #[.int .i64 r.op,.string r.nm,.string r.tx,.int .i64 r.n,.slice r.p r.len r.cap,.int .i64 r2.op,.string r2.nm,.string r2.tx,.int .i64 r2.n,.slice r2.p r2.len r2.cap] 60)::(n3,.cells #[.int .i64 r.op,.string r.nm,.string r.tx,.int .i64 r.n,.slice r.p r.len r.cap] 60)::(n2,.cells #[.int .i64 0,.string ⟨#[]⟩,.string ⟨#[]⟩,.int .i64 0,.slice none 0 0] 60)::PS pb cb lp lcap L k (A2++B)):=SubA.left _ B
   refine⟨(n5,.cells #[.int .i64 r.op,.string r.nm,.string r.tx,.int .i64 r.n,.slice r.p r.len r.cap,.int .i64 r2.op,.string r2.nm,.string r2.tx,.int .i64 r2.n,.slice r2.p r2.len r2.cap] 60)::(n3,.cells #[.int .i64 r.op,.string r.nm,.string r.tx,.int .i64 r.n,.slice r.p r.len r.cap] 60)::(n2,.cells #[.int .i64 0,.string ⟨#[]⟩,.string ⟨#[]⟩,.int .i64 0,.slice none 0 0] 60)::PS pb cb lp lcap L k (A2++B),SubA.both hdB.right (SubA.left _ _), ?_⟩
   simp only[PS,pB,Bt,Ba]at sM⊢
   intro ν fr
   simp only[AF,↓AE,simprocAttr,dst_,eq_true sM]
   have g5':Vm.AA ((n3,Obj.cells #[.int .i64 6,.string ⟨#[]⟩,.string ⟨#[]⟩,.int .i64 0,.slice p' 2 c'] 60)::(n2,.cells #[.int .i64 0,.string ⟨#[]⟩,.string ⟨#[]⟩,.int .i64 0,.slice none 0 0] 60)::PS pb cb lp lcap L k (A2++B)) n5=none:=AJ (by simp[dst_]) (AJ (by simp[dst_]) (AD gA5 n55))
   refine AR.at (SubA.fresh g5' (SubA.refl _)) ?_
   exact AR.weak (ih (L.length - k) (by have:=hq2.le;omega) (EV 6 t t2) k ⟨6,eB,eB,0,p',2,c'⟩ (A2++B) (((hr.mono hs2).mono hs3).two (hr2.mono hs3) (hS'.mono dBA.symm.right)) hk (SubA.trans (SubA.trans hs hs2) hs3) hp3 (AD g22 n52) (AD g23 n53) (fun z hz=>hq' z (.lpO ho hq2 hz)) (by have:=hq2.le;omega) rfl) (by simp[Ah,AO]) (SubA.refl _)
  |false=>
   refine AM.to (AM.of (X:=fun _ _=>False) (KZ pb cb lp lcap L A' hp' j x hx _ hmk)) (SubA.fresh (AJ (eq_false e32.symm) g3) (SubA.fresh g2 (SubA.refl _))) [(n3,_),(n2,_)] (SubA.left [_,_] _) (dis2 g3 g2) (fun ch D h=>h.elim) ?_
   rintro v D ⟨rfl,hD⟩ dD
   refine⟨_,SubA.front dD hD, ?_⟩
   clear fr
   simp only[List.cons_append,List.nil_append]
   intro ν fr
   simp only[AF,↓AE,simprocAttr,dst_]
   have ho:EP 1 (Af L j)=none:=by rw[hlx,qq,hmk];rfl
   exact⟨t,j,r,A',hq' _ (.lpN ho),rfl,hr,hj,hs,hp',SubA.fresh (AJ (eq_false e32.symm) (AV g3)) (SubA.fresh (AV g2) (SubA.refl _))⟩
theorem gq(pb cb:Nat)(lp:Option Addr)(lcap:Nat)(L:List LR)(A:AH)(hp:PsOk pb cb lp L A)(i:Nat)(hi:i<L.length)(hun: ∀k A',i≤k→k<L.length→PsOk pb cb lp L A'→Kq 147 1 pb cb lp lcap L A' k):AM Tryz.prog 116 #[.pointer (some ⟨pb,0,none⟩)] (PS pb cb lp lcap L i A) (K6 L A (Pr L (.lv 0) i)) (fun u_ A_=>eU pb cb lp lcap L A (Pr L (.lv 0) i) u_ A_):=by
 refine Ao ⟨Tryz.prog,116,Tryz.f116,17,[0,2,3],⟨[147,148,149],some (K6 L A (Pr L (.lv 0) i))⟩,[],_⟩ rfl (args:=[_]) Tryz.func116 rfl (by kernel_rfl) Tryz.ntmps116 (by simp) (by kernel_rfl) ?_
 intro ν fr
 have f0:=fr.2 0
 simp only[PS,pB]
 simp only[AF,↓AE,simprocAttr]
 have dst_:True:=(by simp[]);generalize ν 0=n2 at dst_  f0⊢
 clear fr dst_
 refine AM.to (hun i A (Nat.le_refl _) hi hp) (SubA.fresh f0 (SubA.refl _)) [(n2,_)] (SubA.left [_] _) (Dis.one f0).symm (fun ch D h dD=>⟨D,SubA.left _ _,h.mono (SubA.refl _) fun e j h=>.opE (by decide) (by decide) h⟩) ?_
 rintro v D ⟨t,j,r,A',hq,rfl,hr,hj,hs,hp',hD⟩ dD
 refine⟨_,SubA.front dD hD, ?_⟩
 have g2:Vm.AA (PS pb cb lp lcap L j A') n2=none:=hD.none (dD n2 (by simp[Vm.AA]))
 simp only[PS,pB,List.cons_append,List.nil_append]
 intro ν fr;have nuE:=fr.m1 rfl
 simp only[Bt,Ba]
 have f3:Vm.AA ((n2,_)::PS pb cb lp lcap L j A') (ν 0)=none:=fr.2 0
 simp only[AF,↓AE,simprocAttr]
 have dst_:((ν 0=n2)=False)∧((n2=ν 0)=False):=(by simp[nuE]);generalize ν 0=n3 at dst_  f3⊢
 clear nuE fr dD hD
 have e32:n3≠n2:=fun h=>by rw[h]at f3;simp[Vm.AA]at f3
 have g3:Vm.AA (PS pb cb lp lcap L j A') n3=none:=by simpa[Vm.AA,e32.symm]using f3
 clear f3 f0
 have hq': ∀z,Pr L (.lp 0 t) j z→Pr L (.lv 0) i z:=fun z hz=>.opO (by decide) (by decide) hq hz
 have hij:i≤j:=hq.le
 clear hq
 generalize hm:L.length - j=m
 induction m using Nat.strongRecOn generalizing t j r A' with
 | ind m ih=>
  obtain⟨x,hx,hlx⟩:=CA hj
  obtain⟨⟨m1,m2⟩,m3,m4⟩:=hp'.far g2
  obtain⟨⟨m5,m6⟩,m7,m8⟩:=hp'.far g3
  refine AR.intro (by kernel_rfl) ?_
  intro ν fr
  simp only[AF,↓AE,simprocAttr,m1,m5,hp'.en]
  cases hmk:Aw x 1 ⟨#[111,114]⟩with
  |true=>
   refine AM.to (AM.of (X:=fun _ _=>False) (Ka pb cb lp lcap L A' hp' j x hx _ hmk)) (SubA.fresh (AJ (eq_false e32.symm) g3) (SubA.fresh g2 (SubA.refl _))) [(n3,_),(n2,_)] (SubA.left [_,_] _) (dis2 g3 g2) (fun ch D h=>h.elim) ?_
   rintro v D ⟨rfl,hD⟩ dD
   refine⟨_,SubA.front dD hD, ?_⟩
   clear fr
   simp only[List.cons_append,List.nil_append]
   intro ν fr
   simp only[AF,↓AE,simprocAttr,dst_]
   obtain⟨hn1,hn2⟩:=Cj hp'.he hx (by rw[B0 hmk];decide)
   have ho:EP 0 (Af L j)=some 7:=by rw[hlx,qp,hmk];rfl
   rw[hn1]
   refine Av.plan [(0,0),(1,0),(2,0),(3,2),(4,1),(5,2)] [(n3,.cells #[.int .i64 r.op,.string r.nm,.string r.tx,.int .i64 r.n,.slice r.p r.len r.cap] 60)] (SubA.left [_] _) (by kernel_rfl) (by kernel_rfl) (by kernel_rfl) (by kernel_rfl) (by kernel_rfl) (by kernel_rfl) ?_
   clear fr hD dD D
   intro ν fr
   simp only[AF,↓AE,simprocAttr]
   refine AM.to (hun (j+1) A' (by omega) hn2 hp') (SubA.fresh (AJ (eq_false e32.symm) (AV g3)) (SubA.fresh (AV g2) (SubA.refl _))) [(n3,_),(n2,_)] (SubA.left [_,_] _) (dis2 (AV g3) (AV g2)) (fun ch D h dD=>⟨D,SubA.left _ _,h.mono hs fun e k h=>hq' _ (.lpE ho h)⟩) ?_
   rintro v D ⟨t2,k,r2,A2,hq2,rfl,hr2,hk,hs2,hp2,hD⟩ dD
   refine⟨_,SubA.front dD hD, ?_⟩
   have g23:Vm.AA (PS pb cb lp lcap L k A2) n3=none:=hD.none (dD n3 (by simp[Vm.AA]))
   have g22:Vm.AA (PS pb cb lp lcap L k A2) n2=none:=hD.none (dD n2 (by simp[Vm.AA,e32]))
   clear fr
   simp only[PS,pB,List.cons_append,List.nil_append,Bt,Ba]
   intro ν fr;have nuE:=fr.m2 rfl
   have g5:Vm.AA ((n3,_)::(n2,_)::PS pb cb lp lcap L k A2) (ν 0)=none:=fr.2 0
   simp only[AF,↓AE,simprocAttr,Hc]
   have dst_:((ν 0=n3)=False)∧((ν 0=n2)=False)∧((n3=ν 0)=False)∧((n2=ν 0)=False):=(by simp[nuE]);generalize ν 0=n5 at dst_  g5⊢
   clear nuE fr dD hD D
   refine AM.of (AK.newX (Da ((n5,.cells #[.int .i64 r.op,.string r.nm,.string r.tx,.int .i64 r.n,.slice r.p r.len r.cap,.int .i64 r2.op,.string r2.nm,.string r2.tx,.int .i64 r2.n,.slice r2.p r2.len r2.cap] 60)::(n3,.cells #[.int .i64 r.op,.string r.nm,.string r.tx,.int .i64 r.n,.slice r.p r.len r.cap] 60)::(n2,.cells #[.int .i64 0,.string ⟨#[]⟩,.string ⟨#[]⟩,.int .i64 0,.slice none 0 0] 60)::PS pb cb lp lcap L k A2) 7 [r,r2] (some ⟨n5,0,none⟩) 2 (GY n5 _ r r2 _) (by simp)) (SubA.refl _) ?_)
   rintro v B ⟨p',c',rfl,hS'⟩ hdB
   have s5:SubA (PS pb cb lp lcap L k A2) ((n5,.cells #[.int .i64 r.op,.string r.nm,.string r.tx,.int .i64 r.n,.slice r.p r.len r.cap,.int .i64 r2.op,.string r2.nm,.string r2.tx,.int .i64 r2.n,.slice r2.p r2.len r2.cap] 60)::(n3,.cells #[.int .i64 r.op,.string r.nm,.string r.tx,.int .i64 r.n,.slice r.p r.len r.cap] 60)::(n2,.cells #[.int .i64 0,.string ⟨#[]⟩,.string ⟨#[]⟩,.int .i64 0,.slice none 0 0] 60)::PS pb cb lp lcap L k A2):=SubA.fresh g5 (SubA.fresh (AJ (eq_false e32.symm) g23) (SubA.fresh g22 (SubA.refl _)))
   have hp3:=hp2.app hdB s5
   have hs3:SubA A2 (A2++B):=SubA.left _ _
   have n53:Vm.AA B n3=none:=hdB n3 (by simp[Vm.AA,dst_])
   have n52:Vm.AA B n2=none:=hdB n2 (by simp[Vm.AA,dst_,e32])
   have n55:Vm.AA B n5=none:=hdB n5 (by simp[Vm.AA])
   have gA5:Vm.AA (PS pb cb lp lcap L k A2) n5=none:=(SubA.fresh (AJ (eq_false e32.symm) g23) (SubA.fresh g22 (SubA.refl _))).none g5
   have dBA:Dis B A2:=Dis.subr hdB (SubA.trans (show SubA A2 (PS pb cb lp lcap L k A2) from SubA.skip (by simp[hp2.nc]) (SubA.skip hp2.np (SubA.refl _))) s5)
   have sM:SubA ((n5,.cells #[.int .i64 r.op,.string r.nm,.string r.tx,.int .i64 r.n,.slice r.p r.len r.cap,.int .i64 r2.op,.string r2.nm,.string r2.tx,.int .i64 r2.n,.slice r2.p r2.len r2.cap] 60)::(n3,.cells #[.int .i64 r.op,.string r.nm,.string r.tx,.int .i64 r.n,.slice r.p r.len r.cap] 60)::(n2,.cells #[.int .i64 0,.string ⟨#[]⟩,.string ⟨#[]⟩,.int .i64 0,.slice none 0 0] 60)::PS pb cb lp lcap L k A2) ((n5,.cells #[.int .i64 r.op,.string r.nm,.string r.tx,.int .i64 r.n,.slice r.p r.len r.cap,.int .i64 r2.op,.string r2.nm,.string r2.tx,.int .i64 r2.n,.slice r2.p r2.len r2.cap] 60)::(n3,.cells #[.int .i64 r.op,.string r.nm,.string r.tx,.int .i64 r.n,.slice r.p r.len r.cap] 60)::(n2,.cells #[.int .i64 0,.string ⟨#[]⟩,.string ⟨#[]⟩,.int .i64 0,.slice none 0 0] 60)::PS pb cb lp lcap L k (A2++B)):=SubA.left _ B
   refine⟨(n5,.cells #[.int .i64 r.op,.string r.nm,.string r.tx,.int .i64 r.n,.slice r.p r.len r.cap,.int .i64 r2.op,.string r2.nm,.string r2.tx,.int .i64 r2.n,.slice r2.p r2.len r2.cap] 60)::(n3,.cells #[.int .i64 r.op,.string r.nm,.string r.tx,.int .i64 r.n,.slice r.p r.len r.cap] 60)::(n2,.cells #[.int .i64 0,.string ⟨#[]⟩,.string ⟨#[]⟩,.int .i64 0,.slice none 0 0] 60)::PS pb cb lp lcap L k (A2++B),SubA.both hdB.right (SubA.left _ _), ?_⟩
   simp only[PS,pB,Bt,Ba]at sM⊢
   intro ν fr
   simp only[AF,↓AE,simprocAttr,dst_,eq_true sM]
   have g5':Vm.AA ((n3,Obj.cells #[.int .i64 7,.string ⟨#[]⟩,.string ⟨#[]⟩,.int .i64 0,.slice p' 2 c'] 60)::(n2,.cells #[.int .i64 0,.string ⟨#[]⟩,.string ⟨#[]⟩,.int .i64 0,.slice none 0 0] 60)::PS pb cb lp lcap L k (A2++B)) n5=none:=AJ (by simp[dst_]) (AJ (by simp[dst_]) (AD gA5 n55))
   refine AR.at (SubA.fresh g5' (SubA.refl _)) ?_
   exact AR.weak (ih (L.length - k) (by have:=hq2.le;omega) (EV 7 t t2) k ⟨7,eB,eB,0,p',2,c'⟩ (A2++B) (((hr.mono hs2).mono hs3).two (hr2.mono hs3) (hS'.mono dBA.symm.right)) hk (SubA.trans (SubA.trans hs hs2) hs3) hp3 (AD g22 n52) (AD g23 n53) (fun z hz=>hq' z (.lpO ho hq2 hz)) (by have:=hq2.le;omega) rfl) (by simp[Ah,AO]) (SubA.refl _)
  |false=>
   refine AM.to (AM.of (X:=fun _ _=>False) (KZ pb cb lp lcap L A' hp' j x hx _ hmk)) (SubA.fresh (AJ (eq_false e32.symm) g3) (SubA.fresh g2 (SubA.refl _))) [(n3,_),(n2,_)] (SubA.left [_,_] _) (dis2 g3 g2) (fun ch D h=>h.elim) ?_
   rintro v D ⟨rfl,hD⟩ dD
   refine⟨_,SubA.front dD hD, ?_⟩
   clear fr
   simp only[List.cons_append,List.nil_append]
   intro ν fr
   simp only[AF,↓AE,simprocAttr,dst_]
   have ho:EP 0 (Af L j)=none:=by rw[hlx,qp,hmk];rfl
   exact⟨t,j,r,A',hq' _ (.lpN ho),rfl,hr,hj,hs,hp',SubA.fresh (AJ (eq_false e32.symm) (AV g3)) (SubA.fresh (AV g2) (SubA.refl _))⟩
set_option maxHeartbeats 4000000
set_option maxRecDepth 20000
theorem nC(x:LR):EP 3 x=if Aw x 4 ⟨#[43]⟩=true then some 12 else if Aw x 4 ⟨#[45]⟩=true then some 13 else none:=rfl
theorem oH(pb cb:Nat)(lp:Option Addr)(lcap:Nat)(L:List LR)(A:AH)(hp:PsOk pb cb lp L A)(i:Nat)(hi:i<L.length)(hun: ∀k A',i≤k→k<L.length→PsOk pb cb lp L A'→Kq 199 4 pb cb lp lcap L A' k):AM Tryz.prog 191 #[.pointer (some ⟨pb,0,none⟩)] (PS pb cb lp lcap L i A) (K6 L A (Pr L (.lv 3) i)) (fun u_ A_=>eU pb cb lp lcap L A (Pr L (.lv 3) i) u_ A_):=by
 refine Ao ⟨Tryz.prog,191,Tryz.f191,29,[0,2,3],⟨[199,192,149],some (K6 L A (Pr L (.lv 3) i))⟩,[],_⟩ rfl (args:=[_]) Tryz.func191 rfl (by kernel_rfl) Tryz.ntmps191 (by simp) (by kernel_rfl) ?_
 intro ν fr
 have f0:=fr.2 0
 simp only[PS,pB]
 simp only[AF,↓AE,simprocAttr]
 have dst_:True:=(by simp[]);generalize ν 0=n2 at dst_  f0⊢
 clear fr dst_
 refine AM.to (hun i A (Nat.le_refl _) hi hp) (SubA.fresh f0 (SubA.refl _)) [(n2,_)] (SubA.left [_] _) (Dis.one f0).symm (fun ch D h dD=>⟨D,SubA.left _ _,h.mono (SubA.refl _) fun e j h=>.opE (by decide) (by decide) h⟩) ?_
 rintro v D ⟨t,j,r,A',hq,rfl,hr,hj,hs,hp',hD⟩ dD
 refine⟨_,SubA.front dD hD, ?_⟩
 have g2:Vm.AA (PS pb cb lp lcap L j A') n2=none:=hD.none (dD n2 (by simp[Vm.AA]))
 simp only[PS,pB,List.cons_append,List.nil_append]
 intro ν fr;have nuE:=fr.m1 rfl
 simp only[Bt,Ba]
 have f3:Vm.AA ((n2,_)::PS pb cb lp lcap L j A') (ν 0)=none:=fr.2 0
 simp only[AF,↓AE,simprocAttr]
 have dst_:((ν 0=n2)=False)∧((n2=ν 0)=False):=(by simp[nuE]);generalize ν 0=n3 at dst_  f3⊢
 clear nuE fr dD hD
 have e32:n3≠n2:=fun h=>by rw[h]at f3;simp[Vm.AA]at f3
 have g3:Vm.AA (PS pb cb lp lcap L j A') n3=none:=by simpa[Vm.AA,e32.symm]using f3
 clear f3 f0
 have hq': ∀z,Pr L (.lp 3 t) j z→Pr L (.lv 3) i z:=fun z hz=>.opO (by decide) (by decide) hq hz
 have hij:i≤j:=hq.le
 clear hq
 generalize hm:L.length - j=m
 induction m using Nat.strongRecOn generalizing t j r A' with
 | ind m ih=>
  obtain⟨x,hx,hlx⟩:=CA hj
  obtain⟨⟨m1,m2⟩,m3,m4⟩:=hp'.far g2
  obtain⟨⟨m5,m6⟩,m7,m8⟩:=hp'.far g3
  refine AR.intro (by kernel_rfl) ?_
  intro ν fr
  simp only[AF,↓AE,simprocAttr,m1,m5,hp'.en]
  cases hmk:Aw x 4 ⟨#[43]⟩with
  |true=>
   refine AM.to (AM.of (X:=fun _ _=>False) (Fj pb cb lp lcap L A' hp' j x hx _ hmk)) (SubA.fresh (AJ (eq_false e32.symm) g3) (SubA.fresh g2 (SubA.refl _))) [(n3,_),(n2,_)] (SubA.left [_,_] _) (dis2 g3 g2) (fun ch D h=>h.elim) ?_
   rintro v D ⟨rfl,hD⟩ dD
   refine⟨_,SubA.front dD hD, ?_⟩
   clear fr
   simp only[List.cons_append,List.nil_append]
   intro ν fr
   simp only[AF,↓AE,simprocAttr,m1,m5,hp'.en]
   obtain⟨hn1,hn2⟩:=Cj hp'.he hx (by rw[B0 hmk];decide)
   have ho:EP 3 (Af L j)=some 12:=by rw[hlx,nC,hmk];rfl
   rw[hn1]
   refine Av.plan [(0,0),(1,0),(2,0),(3,2),(4,1),(5,2)] [(n3,.cells #[.int .i64 r.op,.string r.nm,.string r.tx,.int .i64 r.n,.slice r.p r.len r.cap] 60)] (SubA.left [_] _) (by kernel_rfl) (by kernel_rfl) (by kernel_rfl) (by kernel_rfl) (by kernel_rfl) (by kernel_rfl) ?_
   clear fr hD dD D
   intro ν fr
   simp only[AF,↓AE,simprocAttr]
   refine AM.to (hun (j+1) A' (by omega) hn2 hp') (SubA.fresh (AJ (eq_false e32.symm) (AV g3)) (SubA.fresh (AV g2) (SubA.refl _))) [(n3,_),(n2,_)] (SubA.left [_,_] _) (dis2 (AV g3) (AV g2)) (fun ch D h dD=>⟨D,SubA.left _ _,h.mono hs fun e k h=>hq' _ (.lpE ho h)⟩) ?_
   rintro v D ⟨t2,k,r2,A2,hq2,rfl,hr2,hk,hs2,hp2,hD⟩ dD
   refine⟨_,SubA.front dD hD, ?_⟩
   have g23:Vm.AA (PS pb cb lp lcap L k A2) n3=none:=hD.none (dD n3 (by simp[Vm.AA]))
   have g22:Vm.AA (PS pb cb lp lcap L k A2) n2=none:=hD.none (dD n2 (by simp[Vm.AA,e32]))
   clear fr
   simp only[PS,pB,List.cons_append,List.nil_append,Bt,Ba]
   intro ν fr;have nuE:=fr.m2 rfl
   have g5:Vm.AA ((n3,_)::(n2,_)::PS pb cb lp lcap L k A2) (ν 0)=none:=fr.2 0
   simp only[AF,↓AE,simprocAttr,Hc]
   have dst_:((ν 0=n3)=False)∧((ν 0=n2)=False)∧((n3=ν 0)=False)∧((n2=ν 0)=False):=(by simp[nuE]);generalize ν 0=n5 at dst_  g5⊢
   clear nuE fr dD hD D
   refine AM.of (AK.newX (Da ((n5,.cells #[.int .i64 r.op,.string r.nm,.string r.tx,.int .i64 r.n,.slice r.p r.len r.cap,.int .i64 r2.op,.string r2.nm,.string r2.tx,.int .i64 r2.n,.slice r2.p r2.len r2.cap] 60)::(n3,.cells #[.int .i64 r.op,.string r.nm,.string r.tx,.int .i64 r.n,.slice r.p r.len r.cap] 60)::(n2,.cells #[.int .i64 0,.string ⟨#[]⟩,.string ⟨#[]⟩,.int .i64 0,.slice none 0 0] 60)::PS pb cb lp lcap L k A2) 12 [r,r2] (some ⟨n5,0,none⟩) 2 (GY n5 _ r r2 _) (by simp)) (SubA.refl _) ?_)
   rintro v B ⟨p',c',rfl,hS'⟩ hdB
   have s5:SubA (PS pb cb lp lcap L k A2) ((n5,.cells #[.int .i64 r.op,.string r.nm,.string r.tx,.int .i64 r.n,.slice r.p r.len r.cap,.int .i64 r2.op,.string r2.nm,.string r2.tx,.int .i64 r2.n,.slice r2.p r2.len r2.cap] 60)::(n3,.cells #[.int .i64 r.op,.string r.nm,.string r.tx,.int .i64 r.n,.slice r.p r.len r.cap] 60)::(n2,.cells #[.int .i64 0,.string ⟨#[]⟩,.string ⟨#[]⟩,.int .i64 0,.slice none 0 0] 60)::PS pb cb lp lcap L k A2):=SubA.fresh g5 (SubA.fresh (AJ (eq_false e32.symm) g23) (SubA.fresh g22 (SubA.refl _)))
   have hp3:=hp2.app hdB s5
   have hs3:SubA A2 (A2++B):=SubA.left _ _
   have n53:Vm.AA B n3=none:=hdB n3 (by simp[Vm.AA,dst_])
   have n52:Vm.AA B n2=none:=hdB n2 (by simp[Vm.AA,dst_,e32])
   have n55:Vm.AA B n5=none:=hdB n5 (by simp[Vm.AA])
   have gA5:Vm.AA (PS pb cb lp lcap L k A2) n5=none:=(SubA.fresh (AJ (eq_false e32.symm) g23) (SubA.fresh g22 (SubA.refl _))).none g5
   have dBA:Dis B A2:=Dis.subr hdB (SubA.trans (show SubA A2 (PS pb cb lp lcap L k A2) from SubA.skip (by simp[hp2.nc]) (SubA.skip hp2.np (SubA.refl _))) s5)
   have sM:SubA ((n5,.cells #[.int .i64 r.op,.string r.nm,.string r.tx,.int .i64 r.n,.slice r.p r.len r.cap,.int .i64 r2.op,.string r2.nm,.string r2.tx,.int .i64 r2.n,.slice r2.p r2.len r2.cap] 60)::(n3,.cells #[.int .i64 r.op,.string r.nm,.string r.tx,.int .i64 r.n,.slice r.p r.len r.cap] 60)::(n2,.cells #[.int .i64 0,.string ⟨#[]⟩,.string ⟨#[]⟩,.int .i64 0,.slice none 0 0] 60)::PS pb cb lp lcap L k A2) ((n5,.cells #[.int .i64 r.op,.string r.nm,.string r.tx,.int .i64 r.n,.slice r.p r.len r.cap,.int .i64 r2.op,.string r2.nm,.string r2.tx,.int .i64 r2.n,.slice r2.p r2.len r2.cap] 60)::(n3,.cells #[.int .i64 r.op,.string r.nm,.string r.tx,.int .i64 r.n,.slice r.p r.len r.cap] 60)::(n2,.cells #[.int .i64 0,.string ⟨#[]⟩,.string ⟨#[]⟩,.int .i64 0,.slice none 0 0] 60)::PS pb cb lp lcap L k (A2++B)):=SubA.left _ B
   refine⟨(n5,.cells #[.int .i64 r.op,.string r.nm,.string r.tx,.int .i64 r.n,.slice r.p r.len r.cap,.int .i64 r2.op,.string r2.nm,.string r2.tx,.int .i64 r2.n,.slice r2.p r2.len r2.cap] 60)::(n3,.cells #[.int .i64 r.op,.string r.nm,.string r.tx,.int .i64 r.n,.slice r.p r.len r.cap] 60)::(n2,.cells #[.int .i64 0,.string ⟨#[]⟩,.string ⟨#[]⟩,.int .i64 0,.slice none 0 0] 60)::PS pb cb lp lcap L k (A2++B),SubA.both hdB.right (SubA.left _ _), ?_⟩
   simp only[PS,pB,Bt,Ba]at sM⊢
   intro ν fr
   simp only[AF,↓AE,simprocAttr,dst_,eq_true sM]
   have g5':Vm.AA ((n3,Obj.cells #[.int .i64 12,.string ⟨#[]⟩,.string ⟨#[]⟩,.int .i64 0,.slice p' 2 c'] 60)::(n2,.cells #[.int .i64 0,.string ⟨#[]⟩,.string ⟨#[]⟩,.int .i64 0,.slice none 0 0] 60)::PS pb cb lp lcap L k (A2++B)) n5=none:=AJ (by simp[dst_]) (AJ (by simp[dst_]) (AD gA5 n55))
   refine AR.at (SubA.fresh g5' (SubA.refl _)) ?_
   exact AR.weak (ih (L.length - k) (by have:=hq2.le;omega) (EV 12 t t2) k ⟨12,eB,eB,0,p',2,c'⟩ (A2++B) (((hr.mono hs2).mono hs3).two (hr2.mono hs3) (hS'.mono dBA.symm.right)) hk (SubA.trans (SubA.trans hs hs2) hs3) hp3 (AD g22 n52) (AD g23 n53) (fun z hz=>hq' z (.lpO ho hq2 hz)) (by have:=hq2.le;omega) rfl) (by simp[Ah,AO]) (SubA.refl _)
  | false=>
   refine AM.to (AM.of (X:=fun _ _=>False) (Fi pb cb lp lcap L A' hp' j x hx _ hmk)) (SubA.fresh (AJ (eq_false e32.symm) g3) (SubA.fresh g2 (SubA.refl _))) [(n3,_),(n2,_)] (SubA.left [_,_] _) (dis2 g3 g2) (fun ch D h=>h.elim) ?_
   rintro v D ⟨rfl,hD⟩ dD
   refine⟨_,SubA.front dD hD, ?_⟩
   clear fr
   simp only[List.cons_append,List.nil_append]
   intro ν fr
   simp only[AF,↓AE,simprocAttr,m1,m5,hp'.en]
   clear hD dD D
   cases hml:Aw x 4 ⟨#[45]⟩with
   |true=>
    refine AM.to (AM.of (X:=fun _ _=>False) (Fj pb cb lp lcap L A' hp' j x hx _ hml)) (SubA.fresh (AJ (eq_false e32.symm) g3) (SubA.fresh g2 (SubA.refl _))) [(n3,_),(n2,_)] (SubA.left [_,_] _) (dis2 g3 g2) (fun ch D h=>h.elim) ?_
    rintro v D ⟨rfl,hD⟩ dD
    refine⟨_,SubA.front dD hD, ?_⟩
    clear fr
    simp only[List.cons_append,List.nil_append]
    intro ν fr
    simp only[AF,↓AE,simprocAttr,dst_]
    obtain⟨hn1,hn2⟩:=Cj hp'.he hx (by rw[B0 hml];decide)
    have ho:EP 3 (Af L j)=some 13:=by rw[hlx,nC,hmk,hml];rfl
    rw[hn1]
    refine Av.plan [(0,0),(1,0),(2,0),(3,2),(4,1),(5,2)] [(n3,.cells #[.int .i64 r.op,.string r.nm,.string r.tx,.int .i64 r.n,.slice r.p r.len r.cap] 60)] (SubA.left [_] _) (by kernel_rfl) (by kernel_rfl) (by kernel_rfl) (by kernel_rfl) (by kernel_rfl) (by kernel_rfl) ?_
    clear fr hD dD D
    intro ν fr
    simp only[AF,↓AE,simprocAttr]
    refine AM.to (hun (j+1) A' (by omega) hn2 hp') (SubA.fresh (AJ (eq_false e32.symm) (AV g3)) (SubA.fresh (AV g2) (SubA.refl _))) [(n3,_),(n2,_)] (SubA.left [_,_] _) (dis2 (AV g3) (AV g2)) (fun ch D h dD=>⟨D,SubA.left _ _,h.mono hs fun e k h=>hq' _ (.lpE ho h)⟩) ?_
    rintro v D ⟨t2,k,r2,A2,hq2,rfl,hr2,hk,hs2,hp2,hD⟩ dD
    refine⟨_,SubA.front dD hD, ?_⟩
    have g23:Vm.AA (PS pb cb lp lcap L k A2) n3=none:=hD.none (dD n3 (by simp[Vm.AA]))
    have g22:Vm.AA (PS pb cb lp lcap L k A2) n2=none:=hD.none (dD n2 (by simp[Vm.AA,e32]))
    clear fr
    simp only[PS,pB,List.cons_append,List.nil_append,Bt,Ba]
    intro ν fr;have nuE:=fr.m2 rfl
    have g5:Vm.AA ((n3,_)::(n2,_)::PS pb cb lp lcap L k A2) (ν 0)=none:=fr.2 0
    simp only[AF,↓AE,simprocAttr,Hc]
    have dst_:((ν 0=n3)=False)∧((ν 0=n2)=False)∧((n3=ν 0)=False)∧((n2=ν 0)=False):=(by simp[nuE]);generalize ν 0=n5 at dst_  g5⊢
    clear nuE fr dD hD D
    refine AM.of (AK.newX (Da ((n5,.cells #[.int .i64 r.op,.string r.nm,.string r.tx,.int .i64 r.n,.slice r.p r.len r.cap,.int .i64 r2.op,.string r2.nm,.string r2.tx,.int .i64 r2.n,.slice r2.p r2.len r2.cap] 60)::(n3,.cells #[.int .i64 r.op,.string r.nm,.string r.tx,.int .i64 r.n,.slice r.p r.len r.cap] 60)::(n2,.cells #[.int .i64 0,.string ⟨#[]⟩,.string ⟨#[]⟩,.int .i64 0,.slice none 0 0] 60)::PS pb cb lp lcap L k A2) 13 [r,r2] (some ⟨n5,0,none⟩) 2 (GY n5 _ r r2 _) (by simp)) (SubA.refl _) ?_)
    rintro v B ⟨p',c',rfl,hS'⟩ hdB
    have s5:SubA (PS pb cb lp lcap L k A2) ((n5,.cells #[.int .i64 r.op,.string r.nm,.string r.tx,.int .i64 r.n,.slice r.p r.len r.cap,.int .i64 r2.op,.string r2.nm,.string r2.tx,.int .i64 r2.n,.slice r2.p r2.len r2.cap] 60)::(n3,.cells #[.int .i64 r.op,.string r.nm,.string r.tx,.int .i64 r.n,.slice r.p r.len r.cap] 60)::(n2,.cells #[.int .i64 0,.string ⟨#[]⟩,.string ⟨#[]⟩,.int .i64 0,.slice none 0 0] 60)::PS pb cb lp lcap L k A2):=SubA.fresh g5 (SubA.fresh (AJ (eq_false e32.symm) g23) (SubA.fresh g22 (SubA.refl _)))
    have hp3:=hp2.app hdB s5
    have hs3:SubA A2 (A2++B):=SubA.left _ _
    have n53:Vm.AA B n3=none:=hdB n3 (by simp[Vm.AA,dst_])
    have n52:Vm.AA B n2=none:=hdB n2 (by simp[Vm.AA,dst_,e32])
    have n55:Vm.AA B n5=none:=hdB n5 (by simp[Vm.AA])
    have gA5:Vm.AA (PS pb cb lp lcap L k A2) n5=none:=(SubA.fresh (AJ (eq_false e32.symm) g23) (SubA.fresh g22 (SubA.refl _))).none g5
    have dBA:Dis B A2:=Dis.subr hdB (SubA.trans (show SubA A2 (PS pb cb lp lcap L k A2) from SubA.skip (by simp[hp2.nc]) (SubA.skip hp2.np (SubA.refl _))) s5)
    have sM:SubA ((n5,.cells #[.int .i64 r.op,.string r.nm,.string r.tx,.int .i64 r.n,.slice r.p r.len r.cap,.int .i64 r2.op,.string r2.nm,.string r2.tx,.int .i64 r2.n,.slice r2.p r2.len r2.cap] 60)::(n3,.cells #[.int .i64 r.op,.string r.nm,.string r.tx,.int .i64 r.n,.slice r.p r.len r.cap] 60)::(n2,.cells #[.int .i64 0,.string ⟨#[]⟩,.string ⟨#[]⟩,.int .i64 0,.slice none 0 0] 60)::PS pb cb lp lcap L k A2) ((n5,.cells #[.int .i64 r.op,.string r.nm,.string r.tx,.int .i64 r.n,.slice r.p r.len r.cap,.int .i64 r2.op,.string r2.nm,.string r2.tx,.int .i64 r2.n,.slice r2.p r2.len r2.cap] 60)::(n3,.cells #[.int .i64 r.op,.string r.nm,.string r.tx,.int .i64 r.n,.slice r.p r.len r.cap] 60)::(n2,.cells #[.int .i64 0,.string ⟨#[]⟩,.string ⟨#[]⟩,.int .i64 0,.slice none 0 0] 60)::PS pb cb lp lcap L k (A2++B)):=SubA.left _ B
    refine⟨(n5,.cells #[.int .i64 r.op,.string r.nm,.string r.tx,.int .i64 r.n,.slice r.p r.len r.cap,.int .i64 r2.op,.string r2.nm,.string r2.tx,.int .i64 r2.n,.slice r2.p r2.len r2.cap] 60)::(n3,.cells #[.int .i64 r.op,.string r.nm,.string r.tx,.int .i64 r.n,.slice r.p r.len r.cap] 60)::(n2,.cells #[.int .i64 0,.string ⟨#[]⟩,.string ⟨#[]⟩,.int .i64 0,.slice none 0 0] 60)::PS pb cb lp lcap L k (A2++B),SubA.both hdB.right (SubA.left _ _), ?_⟩
    simp only[PS,pB,Bt,Ba]at sM⊢
    intro ν fr
    simp only[AF,↓AE,simprocAttr,dst_,eq_true sM]
    have g5':Vm.AA ((n3,Obj.cells #[.int .i64 13,.string ⟨#[]⟩,.string ⟨#[]⟩,.int .i64 0,.slice p' 2 c'] 60)::(n2,.cells #[.int .i64 0,.string ⟨#[]⟩,.string ⟨#[]⟩,.int .i64 0,.slice none 0 0] 60)::PS pb cb lp lcap L k (A2++B)) n5=none:=AJ (by simp[dst_]) (AJ (by simp[dst_]) (AD gA5 n55))
    refine AR.at (SubA.fresh g5' (SubA.refl _)) ?_
    exact AR.weak (ih (L.length - k) (by have:=hq2.le;omega) (EV 13 t t2) k ⟨13,eB,eB,0,p',2,c'⟩ (A2++B) (((hr.mono hs2).mono hs3).two (hr2.mono hs3) (hS'.mono dBA.symm.right)) hk (SubA.trans (SubA.trans hs hs2) hs3) hp3 (AD g22 n52) (AD g23 n53) (fun z hz=>hq' z (.lpO ho hq2 hz)) (by have:=hq2.le;omega) rfl) (by simp[Ah,AO]) (SubA.refl _)
   |false=>
    refine AM.to (AM.of (X:=fun _ _=>False) (Fi pb cb lp lcap L A' hp' j x hx _ hml)) (SubA.fresh (AJ (eq_false e32.symm) g3) (SubA.fresh g2 (SubA.refl _))) [(n3,_),(n2,_)] (SubA.left [_,_] _) (dis2 g3 g2) (fun ch D h=>h.elim) ?_
    rintro v D ⟨rfl,hD⟩ dD
    refine⟨_,SubA.front dD hD, ?_⟩
    clear fr
    simp only[List.cons_append,List.nil_append]
    intro ν fr
    simp only[AF,↓AE,simprocAttr,dst_]
    have ho:EP 3 (Af L j)=none:=by rw[hlx,nC,hmk,hml];rfl
    exact⟨t,j,r,A',hq' _ (.lpN ho),rfl,hr,hj,hs,hp',SubA.fresh (AJ (eq_false e32.symm) (AV g3)) (SubA.fresh (AV g2) (SubA.refl _))⟩
end Go.Proofs.YtgmfcdeknaeikaaGreatDoor
namespace Go.Vm
theorem AM.own{P:Program}{g:FuncId}{args:Array Value}{E Y:AH}{X0 X:List PanicEntry→AH→Prop}{K0 K:Value→AH→Prop}(hc:AM P g args E X0 K0)(hd:Dis E Y)
  (hx: ∀ch D,X0 ch D→X ch (D++Y)) (hk: ∀v D,K0 v D→Dis D Y→ ∃F,SubA F D∧K v (Y++F)):AM P g args (Y++E) X K:=
 AM.to hc hd.symm.right Y (SubA.left _ _) hd (fun ch D h dD=>⟨_,SubA.refl _,hx ch D h⟩) fun v D h dD=>by
  obtain⟨F,h1,h2⟩:=hk v D h dD
  exact⟨_,SubA.front dD h1,h2⟩
end Go.Vm
namespace Go.Proofs.YtgmfcdeknaeikaaGreatDoor
open Go.Vm
set_option maxHeartbeats 4000000
set_option maxRecDepth 20000
def ek(L:List LR)(A:AH)(i:Nat)(ch:List PanicEntry)(D:AH):Prop:= ∃e j nm n x,e≠0∧KX L i=(e,j,nm,n)∧L[j]? =some x∧ch=YK e (x.a:Int)∧SubA A D
theorem FW{pb cb:Nat}{lp:Option Addr}{lcap j:Nat}{L:List LR}{A:AH}(hp:PsOk pb cb lp L A):SubA A (PS pb cb lp lcap L j A):=SubA.skip (by simp[hp.nc]) (SubA.skip hp.np (SubA.refl _))
theorem ek.of{pb cb:Nat}{lp:Option Addr}{lcap j i:Nat}{L:List LR}{A Y:AH}(hp:PsOk pb cb lp L A){ch:List PanicEntry}{D:AH}{nm:ByteArray}{n:Int}(h:Er pb cb lp lcap L A 2 j ch D)(hu:KX L i=(2,j,nm,n)):ek L A i ch (D++Y):=by
 obtain⟨x,h1,h2,h3⟩:=h
 exact⟨2,j,nm,n,x,by decide,hu,h1,h2,SubA.trans (SubA.trans (FW hp) h3) (SubA.left _ _)⟩
theorem kn{x:LR}(h:Gi x=true):x.k≠0:=by simp[Gi]at h;omega
theorem qf{x:LR}{m:Int}(h:Kk x m=true):x.k≠0:=by simp[Kk]at h;omega
theorem VL(pb cb:Nat)(lp:Option Addr)(lcap:Nat)(L:List LR)(A:AH)(hp:PsOk pb cb lp L A)(i:Nat)(hi:i<L.length)(op:Int):AM Tryz.prog 203 #[.pointer (some ⟨pb,0,none⟩),.int .i64 op] (PS pb cb lp lcap L i A) (ek L A i) (fun u_ A_=> ∃j nm n,KX L i=(0,j,nm,n)∧u_=Bt ⟨op,nm,eB,n,none,0,0⟩∧j<L.length∧SubA (PS pb cb lp lcap L j A) A_):=by
 refine Ao ⟨Tryz.prog,203,Tryz.f203,20,[0,1,4,5],⟨[200,204,205],some (ek L A i)⟩,[],_⟩ rfl (args:=[_,_]) Tryz.func203 rfl (by kernel_rfl) Tryz.ntmps203 (by simp) (by kernel_rfl) ?_
 intro ν fr
 have f0:=fr.2 0
 obtain⟨x0,hx0,e0⟩:=CA hi
 simp only[AF,↓AE,simprocAttr]
 have dst_:True:=(by simp[]);generalize ν 0=n2 at dst_  f0⊢
 clear fr dst_
 refine AM.own (Y:=[(n2,_)]) (HK pb cb lp lcap L A hp i x0 hx0 _) (Dis.one f0).symm (fun ch D ⟨h1,h2⟩=>ek.of hp h2 (nm:=eB) (n:=0) (by unfold KX;rw[e0,h1];rfl)) ?_
 rintro v D ⟨h0,hD⟩ dD
 refine⟨_,hD, ?_⟩
 obtain⟨q1,q2⟩:=Cj hp.he hx0 (by rw[B0 h0];decide)
 rw[q1]
 clear hD dD D
 obtain⟨x1,hx1,e1⟩:=CA q2
 intro ν fr
 simp only[AF,↓AE,simprocAttr]
 clear fr
 refine AM.own (Y:=[(n2,_)]) (Ub pb cb lp lcap L A hp (i+1) x1 hx1) (Dis.one (AV f0)).symm (fun ch D ⟨h1,h2⟩=>ek.of hp h2 (nm:=eB) (n:=0) (by unfold KX;rw[e0,e1,h0,h1];rfl)) ?_
 rintro v D ⟨h1,rfl,hD⟩ dD
 refine⟨_,hD, ?_⟩
 obtain⟨q3,q4⟩:=Cj hp.he hx1 (kn h1)
 rw[q3]
 clear hD dD D
 obtain⟨x2,hx2,e2⟩:=CA q4
 intro ν fr;have nuE:=fr.m1 rfl
 have f5:Vm.AA ((n2,_)::PS pb cb lp lcap L (i+1+1) A) (ν 0)=none:=fr.2 0
 simp only[AF,↓AE,simprocAttr]
 have dst_:((ν 0=n2)=False)∧((n2=ν 0)=False):=(by simp[nuE]);generalize ν 0=n5 at dst_  f5⊢
 clear nuE fr
 have e52:n5≠n2:=fun h=>by rw[h]at f5;simp[Vm.AA]at f5
 have g5:Vm.AA (PS pb cb lp lcap L (i+1+1) A) n5=none:=by simpa[Vm.AA,e52.symm]using f5
 clear f5
 refine AM.own (Y:=[(n5,_),(n2,_)]) (HK pb cb lp lcap L A hp (i+1+1) x2 hx2 _) (dis2 g5 (AV f0)) (fun ch D ⟨h2,h3⟩=>ek.of hp h3 (nm:=eB) (n:=0) (by unfold KX;rw[e0,e1,h0,h1,show i+2=i+1+1 from rfl,e2,h2];rfl)) ?_
 rintro v D ⟨h2,hD⟩ dD
 refine⟨_,hD, ?_⟩
 obtain⟨q5,q6⟩:=Cj hp.he hx2 (by rw[B0 h2];decide)
 rw[q5]
 clear hD dD D
 obtain⟨x3,hx3,e3⟩:=CA q6
 intro ν fr
 simp only[AF,↓AE,simprocAttr]
 clear fr
 refine AM.own (Y:=[(n5,_),(n2,_)]) (m9 pb cb lp lcap L A hp (i+1+1+1) x3 hx3 _) (dis2 (AV g5) (AV f0)) (fun ch D ⟨h3,h4⟩=>ek.of hp h4 (nm:=eB) (n:=0) (by unfold KX;rw[e0,e1,h0,h1,show i+2=i+1+1 from rfl,e2,h2,show i+3=i+1+1+1 from rfl,e3,h3];rfl)) ?_
 rintro v D ⟨h3,rfl,hD⟩ dD
 refine⟨_,hD, ?_⟩
 obtain⟨q7,q8⟩:=Cj hp.he hx3 (qf h3)
 rw[q7]
 clear hD dD D
 obtain⟨x4,hx4,e4⟩:=CA q8
 intro ν fr
 simp only[AF,↓AE,simprocAttr]
 clear fr
 refine AM.own (Y:=[(n5,_),(n2,_)]) (HK pb cb lp lcap L A hp (i+1+1+1+1) x4 hx4 _) (dis2 (AV g5) (AV f0)) (fun ch D ⟨h4,h5⟩=>ek.of hp h5 (nm:=eB) (n:=0) (by unfold KX;rw[e0,e1,h0,h1,show i+2=i+1+1 from rfl,e2,h2,show i+3=i+1+1+1 from rfl,e3,h3,show i+4=i+1+1+1+1 from rfl,e4,h4];rfl)) ?_
 rintro v D ⟨h4,hD⟩ dD
 refine⟨_,hD, ?_⟩
 obtain⟨q9,q10⟩:=Cj hp.he hx4 (by rw[B0 h4];decide)
 rw[q9]
 clear hD dD D
 intro ν fr
 simp only[AF,↓AE,simprocAttr,dst_]
 refine⟨i+1+1+1+1+1,x1.t,x3.n, ?_,rfl,q10, ?_⟩
 ·unfold KX;rw[e0,e1,h0,h1,show i+2=i+1+1 from rfl,e2,h2,show i+3=i+1+1+1 from rfl,e3,h3,show i+4=i+1+1+1+1 from rfl,e4,h4];rfl
 ·exact SubA.fresh (AJ (eq_false e52.symm) (AV g5)) (SubA.fresh (AV f0) (SubA.refl _))
theorem ZL{E:AH}{a b c:Nat}{o u w:Obj}(ha:Vm.AA E a=none)(hb:Vm.AA E b=none)(hc:Vm.AA E c=none):Dis E [(a,o),(b,u),(c,w)]:=fun x hx=>by
 simp only[Vm.AA]at hx
 by_cases h1:a=x
 ·rw[←h1];exact ha
 ·rw[if_neg h1]at hx
  exact dis2 (o:=u) (u:=w) hb hc x (by simpa[Vm.AA]using hx)
theorem U5(a b c d e:Value):BP Tryz.prog 58 1 [(0,.agg #[a,b,c,d,e])]=some (60,#[a,b,c,d,e]):=by kernel_rfl
theorem rm(pb cb:Nat)(lp:Option Addr)(lcap:Nat)(L:List LR)(A:AH)(hp:PsOk pb cb lp L A)(i:Nat)(hi:i<L.length)(hun: ∀k A',i<k→k<L.length→PsOk pb cb lp L A'→Kq 202 5 pb cb lp lcap L A' k)(hex: ∀k A',i<k→k<L.length→PsOk pb cb lp L A'→Kq 116 0 pb cb lp lcap L A' k):AM Tryz.prog 202 #[.pointer (some ⟨pb,0,none⟩)] (PS pb cb lp lcap L i A) (K6 L A (Pr L (.lv 5) i)) (fun u_ A_=>eU pb cb lp lcap L A (Pr L (.lv 5) i) u_ A_):=by
 refine Ao ⟨Tryz.prog,202,Tryz.f202,82,[0,2,3,4],⟨[202,116,203,200,204,148,192,194,149],some (K6 L A (Pr L (.lv 5) i))⟩,[],_⟩ rfl (args:=[_]) Tryz.func202 rfl (by kernel_rfl) Tryz.ntmps202 (by simp) (by kernel_rfl) ?_
 intro ν fr;have nuE:=fr.nu
 have f0:=fr.2 0
 obtain⟨x,hx,ex⟩:=CA hi
 have pk:=fun o=>Ov ((pb,pB cb)::A) cb L lp lcap hp.base.1 hp.base.2 i x hx ((ν 0,o)::PS pb cb lp lcap L i A) (SubA.fresh f0 (SubA.refl _))
 obtain⟨⟨m1,m2⟩,m3,m4⟩:=hp.far f0
 have g3:=fr.2 1
 obtain⟨⟨m5,m6⟩,m7,m8⟩:=hp.far g3
 simp only[PS,pB,DV]at pk⊢
 simp only[AF,↓AE,simprocAttr,pk,m1,m5,hp.en]
 have dst_:((ν 0=ν 1)=False)∧((ν 1=ν 0)=False):=(by simp[nuE]);generalize ν 0=n2 at dst_  f0 g3 m1 m2 m3 m4 m5 m6 m7 m8 ⊢;generalize ν 1=n3 at dst_  f0 g3 m1 m2 m3 m4 m5 m6 m7 m8⊢
 clear nuE fr pk
 have d23:=dst_
 cases h1:Aw x 1 ⟨#[110,111,116]⟩with
 |true=>
  obtain⟨q1,q2⟩:=Cj hp.he hx (by rw[B0 h1];decide)
  refine AM.own (Y:=[(n3,_),(n2,_)]) (AM.of (X:=fun _ _=>False) (Ka pb cb lp lcap L A hp i x hx _ h1)) (dis2 g3 f0) (fun ch D h=>h.elim) ?_
  rintro v D ⟨rfl,hD⟩ dD
  refine⟨_,hD, ?_⟩
  rw[q1]
  clear hD dD D
  simp only[List.cons_append,List.nil_append]
  intro ν fr
  simp only[AF,↓AE,simprocAttr,m1,m5,hp.en]
  clear fr
  have hu:Dh (Af L i)=.one 4:=by rw[ex];unfold Dh;simp[h1]
  refine AM.own (Y:=[(n3,_),(n2,_)]) (hun (i+1) A (by omega) q2 hp) (dis2 (AV g3) (AV f0)) (fun ch D h=>(h.at (SubA.left _ _)).mono (SubA.refl _) fun e k h=>.unE hu h) ?_
  rintro v D ⟨t,k,r,A2,hq,rfl,hr,hk,hs,hp2,hD⟩ dD
  refine⟨_,hD, ?_⟩
  have g23:Vm.AA (PS pb cb lp lcap L k A2) n3=none:=hD.none (dD n3 (by simp[Vm.AA]))
  have g22:Vm.AA (PS pb cb lp lcap L k A2) n2=none:=hD.none (dD n2 (by simp[Vm.AA,dst_]))
  clear hD dD D
  simp only[PS,pB,List.cons_append,List.nil_append,Bt,Ba]
  intro ν fr;have nuE:=fr.m2 rfl
  have g5:Vm.AA ((n3,.cells #[.int .i64 x.k,.string x.t,.int .i64 x.n,.int .i64 (x.a:Int)] 85)::(n2,.cells #[.int .i64 0,.string ⟨#[]⟩,.string ⟨#[]⟩,.int .i64 0,.slice none 0 0] 60)::PS pb cb lp lcap L k A2) (ν 0)=none:=fr.2 0
  simp only[AF,↓AE,simprocAttr,U5]
  have dst_:((ν 0=n3)=False)∧((ν 0=n2)=False)∧((n3=ν 0)=False)∧((n2=ν 0)=False):=(by simp[nuE]);generalize ν 0=n5 at dst_  g5⊢
  clear nuE fr
  have s0:SubA (PS pb cb lp lcap L k A2) ((n3,.cells #[.int .i64 x.k,.string x.t,.int .i64 x.n,.int .i64 (x.a:Int)] 85)::(n2,.cells #[.int .i64 0,.string ⟨#[]⟩,.string ⟨#[]⟩,.int .i64 0,.slice none 0 0] 60)::PS pb cb lp lcap L k A2):=SubA.fresh (AJ d23.1 g23) (SubA.fresh g22 (SubA.refl _))
  have s5:=fun o:Obj=>SubA.trans s0 (SubA.fresh (o:=o) g5 (SubA.refl _))
  refine AM.of (AK.newX (Da ((n5,.cells #[.int .i64 r.op,.string r.nm,.string r.tx,.int .i64 r.n,.slice r.p r.len r.cap] 60)::(n3,.cells #[.int .i64 x.k,.string x.t,.int .i64 x.n,.int .i64 (x.a:Int)] 85)::(n2,.cells #[.int .i64 0,.string ⟨#[]⟩,.string ⟨#[]⟩,.int .i64 0,.slice none 0 0] 60)::PS pb cb lp lcap L k A2) 4 [r] (some ⟨n5,0,none⟩) 1 (eC n5 _ r _) (by simp)) (SubA.refl _) ?_)
  rintro v B ⟨p',c',rfl,hS'⟩ hdB
  have hp3:=hp2.app hdB (s5 _)
  have dBA:Dis B A2:=Dis.subr hdB (SubA.trans (FW hp2) (s5 _))
  have n52:Vm.AA B n2=none:=hdB n2 (by simp[Vm.AA,dst_,d23])
  refine⟨(n2,.cells #[.int .i64 0,.string ⟨#[]⟩,.string ⟨#[]⟩,.int .i64 0,.slice none 0 0] 60)::PS pb cb lp lcap L k (A2++B),SubA.both (X:=(n2,.cells #[.int .i64 0,.string ⟨#[]⟩,.string ⟨#[]⟩,.int .i64 0,.slice none 0 0] 60)::PS pb cb lp lcap L k A2) (SubA.trans (SubA.fresh g5 (SubA.fresh (AJ d23.1 g23) (SubA.refl _))) hdB.right) (SubA.left _ _), ?_⟩
  simp only[PS,pB,Bt,Ba]
  intro ν fr
  simp only[AF,↓AE,simprocAttr]
  exact⟨Ji 4 t,k,⟨4,eB,eB,0,p',1,c'⟩,A2++B,.unO hu hq,rfl,(hr.mono (SubA.left _ _)).one (hS'.mono dBA.symm.right),hk,SubA.trans hs (SubA.left _ _),hp3,SubA.fresh (AD g22 n52) (SubA.refl _)⟩
 | false=>
  refine AM.own (Y:=[(n3,_),(n2,_)]) (AM.of (X:=fun _ _=>False) (KZ pb cb lp lcap L A hp i x hx _ h1)) (dis2 g3 f0) (fun ch D h=>h.elim) ?_
  rintro v D ⟨rfl,hD⟩ dD
  refine⟨_,hD, ?_⟩
  clear hD dD D
  simp only[List.cons_append,List.nil_append]
  intro ν fr
  simp only[AF,↓AE,simprocAttr,m1,m5,hp.en]
  clear fr
  cases h2:Aw x 4 ⟨#[45]⟩with
  |true=>
   obtain⟨q1,q2⟩:=Cj hp.he hx (by rw[B0 h2];decide)
   refine AM.own (Y:=[(n3,_),(n2,_)]) (AM.of (X:=fun _ _=>False) (Fj pb cb lp lcap L A hp i x hx _ h2)) (dis2 g3 f0) (fun ch D h=>h.elim) ?_
   rintro v D ⟨rfl,hD⟩ dD
   refine⟨_,hD, ?_⟩
   rw[q1]
   clear hD dD D
   simp only[List.cons_append,List.nil_append]
   intro ν fr
   simp only[AF,↓AE,simprocAttr,m1,m5,hp.en]
   clear fr
   have hu:Dh (Af L i)=.one 5:=by rw[ex];unfold Dh;simp[h1,h2]
   refine AM.own (Y:=[(n3,_),(n2,_)]) (hun (i+1) A (by omega) q2 hp) (dis2 (AV g3) (AV f0)) (fun ch D h=>(h.at (SubA.left _ _)).mono (SubA.refl _) fun e k h=>.unE hu h) ?_
   rintro v D ⟨t,k,r,A2,hq,rfl,hr,hk,hs,hp2,hD⟩ dD
   refine⟨_,hD, ?_⟩
   have g23:Vm.AA (PS pb cb lp lcap L k A2) n3=none:=hD.none (dD n3 (by simp[Vm.AA]))
   have g22:Vm.AA (PS pb cb lp lcap L k A2) n2=none:=hD.none (dD n2 (by simp[Vm.AA,dst_]))
   clear hD dD D
   simp only[PS,pB,List.cons_append,List.nil_append,Bt,Ba]
   intro ν fr;have nuE:=fr.m2 rfl
   have g5:Vm.AA ((n3,.cells #[.int .i64 x.k,.string x.t,.int .i64 x.n,.int .i64 (x.a:Int)] 85)::(n2,.cells #[.int .i64 0,.string ⟨#[]⟩,.string ⟨#[]⟩,.int .i64 0,.slice none 0 0] 60)::PS pb cb lp lcap L k A2) (ν 0)=none:=fr.2 0
   simp only[AF,↓AE,simprocAttr,U5]
   have dst_:((ν 0=n3)=False)∧((ν 0=n2)=False)∧((n3=ν 0)=False)∧((n2=ν 0)=False):=(by simp[nuE]);generalize ν 0=n5 at dst_  g5⊢
   clear nuE fr
   have s0:SubA (PS pb cb lp lcap L k A2) ((n3,.cells #[.int .i64 x.k,.string x.t,.int .i64 x.n,.int .i64 (x.a:Int)] 85)::(n2,.cells #[.int .i64 0,.string ⟨#[]⟩,.string ⟨#[]⟩,.int .i64 0,.slice none 0 0] 60)::PS pb cb lp lcap L k A2):=SubA.fresh (AJ d23.1 g23) (SubA.fresh g22 (SubA.refl _))
   have s5:=fun o:Obj=>SubA.trans s0 (SubA.fresh (o:=o) g5 (SubA.refl _))
   refine AM.of (AK.newX (Da ((n5,.cells #[.int .i64 r.op,.string r.nm,.string r.tx,.int .i64 r.n,.slice r.p r.len r.cap] 60)::(n3,.cells #[.int .i64 x.k,.string x.t,.int .i64 x.n,.int .i64 (x.a:Int)] 85)::(n2,.cells #[.int .i64 0,.string ⟨#[]⟩,.string ⟨#[]⟩,.int .i64 0,.slice none 0 0] 60)::PS pb cb lp lcap L k A2) 5 [r] (some ⟨n5,0,none⟩) 1 (eC n5 _ r _) (by simp)) (SubA.refl _) ?_)
   rintro v B ⟨p',c',rfl,hS'⟩ hdB
   have hp3:=hp2.app hdB (s5 _)
   have dBA:Dis B A2:=Dis.subr hdB (SubA.trans (FW hp2) (s5 _))
   have n52:Vm.AA B n2=none:=hdB n2 (by simp[Vm.AA,dst_,d23])
   refine⟨(n2,.cells #[.int .i64 0,.string ⟨#[]⟩,.string ⟨#[]⟩,.int .i64 0,.slice none 0 0] 60)::PS pb cb lp lcap L k (A2++B),SubA.both (X:=(n2,.cells #[.int .i64 0,.string ⟨#[]⟩,.string ⟨#[]⟩,.int .i64 0,.slice none 0 0] 60)::PS pb cb lp lcap L k A2) (SubA.trans (SubA.fresh g5 (SubA.fresh (AJ d23.1 g23) (SubA.refl _))) hdB.right) (SubA.left _ _), ?_⟩
   simp only[PS,pB,Bt,Ba]
   intro ν fr
   simp only[AF,↓AE,simprocAttr]
   exact⟨Ji 5 t,k,⟨5,eB,eB,0,p',1,c'⟩,A2++B,.unO hu hq,rfl,(hr.mono (SubA.left _ _)).one (hS'.mono dBA.symm.right),hk,SubA.trans hs (SubA.left _ _),hp3,SubA.fresh (AD g22 n52) (SubA.refl _)⟩
  | false=>
   refine AM.own (Y:=[(n3,_),(n2,_)]) (AM.of (X:=fun _ _=>False) (Fi pb cb lp lcap L A hp i x hx _ h2)) (dis2 g3 f0) (fun ch D h=>h.elim) ?_
   rintro v D ⟨rfl,hD⟩ dD
   refine⟨_,hD, ?_⟩
   clear hD dD D
   simp only[List.cons_append,List.nil_append]
   intro ν fr
   simp only[AF,↓AE,simprocAttr,m1,m5,hp.en]
   clear fr
   cases h3:Aw x 1 ⟨#[99,111,117,110,116]⟩with
   |true=>
    obtain⟨q1,q2⟩:=Cj hp.he hx (by rw[B0 h3];decide)
    refine AM.own (Y:=[(n3,_),(n2,_)]) (AM.of (X:=fun _ _=>False) (Ka pb cb lp lcap L A hp i x hx _ h3)) (dis2 g3 f0) (fun ch D h=>h.elim) ?_
    rintro v D ⟨rfl,hD⟩ dD
    refine⟨_,hD, ?_⟩
    rw[q1]
    clear hD dD D
    simp only[List.cons_append,List.nil_append]
    intro ν fr
    simp only[AF,↓AE,simprocAttr,m1,m5,hp.en]
    clear fr
    have hu:Dh (Af L i)=.use 16:=by rw[ex];unfold Dh;simp[h1,h2,h3]
    refine AM.own (Y:=[(n3,_),(n2,_)]) (VL pb cb lp lcap L A hp (i+1) q2 16) (dis2 (AV g3) (AV f0)) (fun ch D ⟨e,j,nm,n,y,h6,h7,h8,h9,h10⟩=>⟨e,j,y,h6,.usE hu h7 h6,h8,h9,SubA.trans h10 (SubA.left _ _)⟩) ?_
    rintro v D ⟨j,nm,n,h7,rfl,hj,hD⟩ dD
    refine⟨_,hD, ?_⟩
    clear hD dD D
    simp only[PS,pB,List.cons_append,List.nil_append,Bt,Ba]
    intro ν fr
    simp only[AF,↓AE,simprocAttr,d23]
    exact⟨.mk 16 nm eB n [],j,⟨16,nm,eB,n,none,0,0⟩,A,.usO hu h7,rfl,ExR.leaf _ _ _ _ _ _ _,hj,SubA.refl _,hp,SubA.fresh (AJ d23.1 (AV g3)) (SubA.fresh (AV f0) (SubA.refl _))⟩
   | false=>
    refine AM.own (Y:=[(n3,_),(n2,_)]) (AM.of (X:=fun _ _=>False) (KZ pb cb lp lcap L A hp i x hx _ h3)) (dis2 g3 f0) (fun ch D h=>h.elim) ?_
    rintro v D ⟨rfl,hD⟩ dD
    refine⟨_,hD, ?_⟩
    clear hD dD D
    simp only[List.cons_append,List.nil_append]
    intro ν fr
    simp only[AF,↓AE,simprocAttr,m1,m5,hp.en]
    clear fr
    cases h4:Aw x 1 ⟨#[115,117,109]⟩with
    |true=>
     obtain⟨q1,q2⟩:=Cj hp.he hx (by rw[B0 h4];decide)
     refine AM.own (Y:=[(n3,_),(n2,_)]) (AM.of (X:=fun _ _=>False) (Ka pb cb lp lcap L A hp i x hx _ h4)) (dis2 g3 f0) (fun ch D h=>h.elim) ?_
     rintro v D ⟨rfl,hD⟩ dD
     refine⟨_,hD, ?_⟩
     rw[q1]
     clear hD dD D
     simp only[List.cons_append,List.nil_append]
     intro ν fr
     simp only[AF,↓AE,simprocAttr,m1,m5,hp.en]
     clear fr
     have hu:Dh (Af L i)=.use 17:=by rw[ex];unfold Dh;simp[h1,h2,h3,h4]
     refine AM.own (Y:=[(n3,_),(n2,_)]) (VL pb cb lp lcap L A hp (i+1) q2 17) (dis2 (AV g3) (AV f0)) (fun ch D ⟨e,j,nm,n,y,h6,h7,h8,h9,h10⟩=>⟨e,j,y,h6,.usE hu h7 h6,h8,h9,SubA.trans h10 (SubA.left _ _)⟩) ?_
     rintro v D ⟨j,nm,n,h7,rfl,hj,hD⟩ dD
     refine⟨_,hD, ?_⟩
     clear hD dD D
     simp only[PS,pB,List.cons_append,List.nil_append,Bt,Ba]
     intro ν fr
     simp only[AF,↓AE,simprocAttr,d23]
     exact⟨.mk 17 nm eB n [],j,⟨17,nm,eB,n,none,0,0⟩,A,.usO hu h7,rfl,ExR.leaf _ _ _ _ _ _ _,hj,SubA.refl _,hp,SubA.fresh (AJ d23.1 (AV g3)) (SubA.fresh (AV f0) (SubA.refl _))⟩
    | false=>
     refine AM.own (Y:=[(n3,_),(n2,_)]) (AM.of (X:=fun _ _=>False) (KZ pb cb lp lcap L A hp i x hx _ h4)) (dis2 g3 f0) (fun ch D h=>h.elim) ?_
     rintro v D ⟨rfl,hD⟩ dD
     refine⟨_,hD, ?_⟩
     clear hD dD D
     simp only[List.cons_append,List.nil_append]
     intro ν fr
     simp only[AF,↓AE,simprocAttr,m1,m5,hp.en]
     clear fr
     cases h5:Aw x 4 ⟨#[40]⟩with
     |true=>
      obtain⟨q1,q2⟩:=Cj hp.he hx (by rw[B0 h5];decide)
      refine AM.own (Y:=[(n3,_),(n2,_)]) (AM.of (X:=fun _ _=>False) (Fj pb cb lp lcap L A hp i x hx _ h5)) (dis2 g3 f0) (fun ch D h=>h.elim) ?_
      rintro v D ⟨rfl,hD⟩ dD
      refine⟨_,hD, ?_⟩
      rw[q1]
      clear hD dD D
      simp only[List.cons_append,List.nil_append]
      intro ν fr
      simp only[AF,↓AE,simprocAttr,m1,m5,hp.en]
      clear fr
      have hu:Dh (Af L i)=.par:=by rw[ex];unfold Dh;simp[h1,h2,h3,h4,h5]
      refine AM.own (Y:=[(n3,_),(n2,_)]) (hex (i+1) A (by omega) q2 hp) (dis2 (AV g3) (AV f0)) (fun ch D h=>(h.at (SubA.left _ _)).mono (SubA.refl _) fun e k h=>.paE hu h) ?_
      rintro v D ⟨t,k,r,A2,hq,rfl,hr,hk,hs,hp2,hD⟩ dD
      refine⟨_,hD, ?_⟩
      have g23:Vm.AA (PS pb cb lp lcap L k A2) n3=none:=hD.none (dD n3 (by simp[Vm.AA]))
      have g22:Vm.AA (PS pb cb lp lcap L k A2) n2=none:=hD.none (dD n2 (by simp[Vm.AA,d23]))
      clear hD dD D
      simp only[List.cons_append,List.nil_append,Bt,Ba]
      intro ν fr;have nuE:=fr.m2 rfl
      have g5:Vm.AA ((n3,.cells #[.int .i64 x.k,.string x.t,.int .i64 x.n,.int .i64 (x.a:Int)] 85)::(n2,.cells #[.int .i64 0,.string ⟨#[]⟩,.string ⟨#[]⟩,.int .i64 0,.slice none 0 0] 60)::PS pb cb lp lcap L k A2) (ν 0)=none:=fr.2 0
      simp only[AF,↓AE,simprocAttr]
      have dst_:((ν 0=n3)=False)∧((ν 0=n2)=False)∧((n3=ν 0)=False)∧((n2=ν 0)=False):=(by simp[nuE]);generalize ν 0=n5 at dst_  g5⊢
      clear nuE fr
      have s0:SubA (PS pb cb lp lcap L k A2) ((n3,.cells #[.int .i64 x.k,.string x.t,.int .i64 x.n,.int .i64 (x.a:Int)] 85)::(n2,.cells #[.int .i64 0,.string ⟨#[]⟩,.string ⟨#[]⟩,.int .i64 0,.slice none 0 0] 60)::PS pb cb lp lcap L k A2):=SubA.fresh (AJ d23.1 g23) (SubA.fresh g22 (SubA.refl _))
      have g55:=s0.none g5
      obtain⟨y,hy,ey⟩:=CA hk
      refine AM.own (Y:=[(n5,_),(n3,_),(n2,_)]) (HK pb cb lp lcap L A2 hp2 k y hy _) (ZL g55 g23 g22) (fun ch D ⟨h6,z,h7,h8,h9⟩=>⟨2,k,z,by decide,.paB hu hq (by rw[ey];exact h6),h7,h8,SubA.trans (SubA.trans hs (SubA.trans (FW hp2) h9)) (SubA.left _ _)⟩) ?_
      rintro v D ⟨h6,hD⟩ dD
      refine⟨_,hD, ?_⟩
      obtain⟨q3,q4⟩:=Cj hp2.he hy (by rw[B0 h6];decide)
      rw[q3]
      clear hD dD D
      simp only[List.cons_append,List.nil_append]
      intro ν fr
      simp only[AF,↓AE,simprocAttr,dst_,d23]
      exact⟨t,k+1,r,A2,.paO hu hq (by rw[ey];exact h6),rfl,hr,q4,hs,hp2,(ZL (AV g55) (AV g23) (AV g22)).symm.right⟩
     | false=>
      refine AM.own (Y:=[(n3,_),(n2,_)]) (AM.of (X:=fun _ _=>False) (Fi pb cb lp lcap L A hp i x hx _ h5)) (dis2 g3 f0) (fun ch D h=>h.elim) ?_
      rintro v D ⟨rfl,hD⟩ dD
      refine⟨_,hD, ?_⟩
      clear hD dD D
      simp only[List.cons_append,List.nil_append]
      intro ν fr
      simp only[AF,↓AE,simprocAttr,m1,m5,hp.en]
      by_cases k2:x.k=2
      ·simp only[simprocAttr,k2]
       clear fr
       have hu:Dh (Af L i)=.num:=by rw[ex];unfold Dh;simp[h1,h2,h3,h4,h5,k2]
       obtain⟨q1,q2⟩:=Cj hp.he hx (by omega)
       refine AM.own (Y:=[(n3,_),(n2,_)]) (AM.of (X:=fun _ _=>False) (Jf ((pb,pB cb)::A) cb L lp lcap hp.base.1 hp.base.2 hp.hl i x hx)) (dis2 g3 f0) (fun ch D h=>h.elim) ?_
       rintro v D ⟨rfl,hD⟩ dD
       refine⟨_,hD, ?_⟩
       rw[q1]
       clear hD dD D
       simp only[List.cons_append,List.nil_append,pB,DV]
       intro ν fr
       simp only[AF,↓AE,simprocAttr,d23]
       exact⟨.mk 1 eB eB x.n [],i+1,⟨1,eB,eB,x.n,none,0,0⟩,A,ex▸ .nu hu,rfl,ExR.leaf _ _ _ _ _ _ _,q2,SubA.refl _,hp,SubA.fresh (AJ d23.1 (AV g3)) (SubA.fresh (AV f0) (SubA.refl _))⟩
      ·have e2:(x.k==2)=false:=by simp[k2]
       by_cases k3:x.k=3
       ·simp only[simprocAttr,k3]
        clear fr
        have hu:Dh (Af L i)=.txt:=by rw[ex];unfold Dh;simp[h1,h2,h3,h4,h5,k3]
        obtain⟨q1,q2⟩:=Cj hp.he hx (by omega)
        refine AM.own (Y:=[(n3,_),(n2,_)]) (AM.of (X:=fun _ _=>False) (Jf ((pb,pB cb)::A) cb L lp lcap hp.base.1 hp.base.2 hp.hl i x hx)) (dis2 g3 f0) (fun ch D h=>h.elim) ?_
        rintro v D ⟨rfl,hD⟩ dD
        refine⟨_,hD, ?_⟩
        rw[q1]
        clear hD dD D
        simp only[List.cons_append,List.nil_append,pB,DV]
        intro ν fr
        simp only[AF,↓AE,simprocAttr,d23]
        exact⟨.mk 2 eB x.t 0 [],i+1,⟨2,eB,x.t,0,none,0,0⟩,A,ex▸ .te hu,rfl,ExR.leaf _ _ _ _ _ _ _,q2,SubA.refl _,hp,SubA.fresh (AJ d23.1 (AV g3)) (SubA.fresh (AV f0) (SubA.refl _))⟩
       ·have e3:(x.k==3)=false:=by simp[k3]
        simp only[simprocAttr,eq_false k2,eq_false k3]
        clear fr
        refine AM.own (Y:=[(n3,_),(n2,_)]) (Ub pb cb lp lcap L A hp i x hx) (dis2 g3 f0) (fun ch D ⟨h6,z,h7,h8,h9⟩=>⟨2,i,z,by decide,.ba (by rw[ex];unfold Dh;simp[h1,h2,h3,h4,h5,k2,k3,h6]),h7,h8,SubA.trans (SubA.trans (FW hp) h9) (SubA.left _ _)⟩) ?_
        rintro v D ⟨h6,rfl,hD⟩ dD
        refine⟨_,hD, ?_⟩
        have hu:Dh (Af L i)=.nam:=by rw[ex];unfold Dh;simp[h1,h2,h3,h4,h5,k2,k3,h6]
        obtain⟨q1,q2⟩:=Cj hp.he hx (kn h6)
        rw[q1]
        clear hD dD D
        simp only[List.cons_append,List.nil_append]
        intro ν fr
        simp only[AF,↓AE,simprocAttr,d23]
        exact⟨.mk 3 x.t eB 0 [],i+1,⟨3,x.t,eB,0,none,0,0⟩,A,ex▸ .na hu,rfl,ExR.leaf _ _ _ _ _ _ _,q2,SubA.refl _,hp,SubA.fresh (AJ d23.1 (AV g3)) (SubA.fresh (AV f0) (SubA.refl _))⟩
set_option maxHeartbeats 4000000
set_option maxRecDepth 20000
def YQ(L:List LR)(i:Nat)(t:Xs)(z:Rz):Prop:=(Aw (Af L i) 4 ⟨#[40]⟩=false∧z=.er 2 i)∨(Aw (Af L i) 4 ⟨#[40]⟩=true∧Pr L (.ch [t]) (i+1) z)
theorem YQ.to{L:List LR}{i j:Nat}{t:Xs}{z:Rz}(hq:Pr L (.lv 3) i (.ok t j))(hc:Ge (Af L j)=none)(hb:Mp (Af L j)=true)(h:YQ L (j+1) t z):Pr L (.lv 2) i z:=by
 rcases h with⟨h1,rfl⟩|⟨h1,h2⟩
 ·exact .inP hq hc hb h1
 ·exact .inC hq hc hb h1 h2
theorem fa(pb cb:Nat)(lp:Option Addr)(lcap:Nat)(L:List LR)(A:AH)(hp:PsOk pb cb lp L A)(i:Nat)(hi:i<L.length)(hun: ∀k A',i≤k→k<L.length→PsOk pb cb lp L A'→Kq 191 3 pb cb lp lcap L A' k)(hch: ∀k A' t r,i<k→k<L.length→PsOk pb cb lp L A'→ExR A' t r→AM Tryz.prog 193 #[.pointer (some ⟨pb,0,none⟩),Bt r] (PS pb cb lp lcap L k A') (K6 L A' (YQ L k t)) (eU pb cb lp lcap L A' (YQ L k t))):AM Tryz.prog 177 #[.pointer (some ⟨pb,0,none⟩)] (PS pb cb lp lcap L i A) (K6 L A (Pr L (.lv 2) i)) (fun u_ A_=>eU pb cb lp lcap L A (Pr L (.lv 2) i) u_ A_):=by
 refine Ao ⟨Tryz.prog,177,Tryz.f177,60,[0,2,3],⟨[191,193,192,148,149],some (K6 L A (Pr L (.lv 2) i))⟩,[],_⟩ rfl (args:=[_]) Tryz.func177 rfl (by kernel_rfl) Tryz.ntmps177 (by simp) (by kernel_rfl) ?_
 intro ν fr
 have f0:=fr.2 0
 simp only[PS,pB]
 simp only[AF,↓AE,simprocAttr]
 have dst_:True:=(by simp[]);generalize ν 0=n2 at dst_  f0⊢
 clear fr dst_
 refine AM.to (hun i A (Nat.le_refl _) hi hp) (SubA.fresh f0 (SubA.refl _)) [(n2,_)] (SubA.left [_] _) (Dis.one f0).symm (fun ch D h dD=>⟨D,SubA.left _ _,h.mono (SubA.refl _) fun e j h=>.cmE h⟩) ?_
 rintro v D ⟨t,j,r,A',hq,rfl,hr,hj,hs,hp',hD⟩ dD
 refine⟨_,SubA.front dD hD, ?_⟩
 have g2:Vm.AA (PS pb cb lp lcap L j A') n2=none:=hD.none (dD n2 (by simp[Vm.AA]))
 simp only[PS,pB,List.cons_append,List.nil_append]
 intro ν fr;have nuE:=fr.m1 rfl
 simp only[Bt,Ba]
 have f3:Vm.AA ((n2,.cells #[.int .i64 0,.string ⟨#[]⟩,.string ⟨#[]⟩,.int .i64 0,.slice none 0 0] 60)::PS pb cb lp lcap L j A') (ν 0)=none:=fr.2 0
 have g3:Vm.AA (PS pb cb lp lcap L j A') (ν 0)=none:=(SubA.fresh g2 (SubA.refl _)).none f3
 obtain⟨⟨m1,m2⟩,m3,m4⟩:=hp'.far g2
 obtain⟨⟨m5,m6⟩,m7,m8⟩:=hp'.far g3
 obtain⟨x,hx,hlx⟩:=CA hj
 simp only[AF,↓AE,simprocAttr,m1,m5,hp'.en]
 have dst_:((ν 0=n2)=False)∧((n2=ν 0)=False):=(by simp[nuE]);generalize ν 0=n3 at dst_  f3 g3 m5 m6 m7 m8⊢
 clear dD hD D f3 f0
 have e32:n3≠n2:=fun h=>by have:=dst_.1;rw[this]at h;exact h
 have hij:i≤j:=hq.le
 cases h1:Aw x 4 ⟨#[61]⟩with
 |true=>
  refine AM.to (AM.of (X:=fun _ _=>False) (Fj pb cb lp lcap L A' hp' j x hx _ h1)) (SubA.fresh (AJ (eq_false e32.symm) g3) (SubA.fresh g2 (SubA.refl _))) [(n3,_),(n2,_)] (SubA.left [_,_] _) (dis2 g3 g2) (fun ch D h=>h.elim) ?_
  rintro v D ⟨rfl,hD⟩ dD
  refine⟨_,SubA.front dD hD, ?_⟩
  clear nuE fr
  simp only[List.cons_append,List.nil_append]
  intro ν fr
  simp only[AF,↓AE,simprocAttr,m1,m5,hp'.en]
  obtain⟨hn1,hn2⟩:=Cj hp'.he hx (by rw[B0 h1];decide)
  have ho:Ge (Af L j)=some 8:=by rw[hlx];unfold Ge;simp[h1]
  rw[hn1]
  refine Av.plan [(0,0),(1,0),(2,0),(3,2),(4,1),(5,2)] [(n3,.cells #[.int .i64 r.op,.string r.nm,.string r.tx,.int .i64 r.n,.slice r.p r.len r.cap] 60)] (SubA.left [_] _) (by kernel_rfl) (by kernel_rfl) (by kernel_rfl) (by kernel_rfl) (by kernel_rfl) (by kernel_rfl) ?_
  clear fr hD dD D
  intro ν fr
  simp only[AF,↓AE,simprocAttr]
  refine AM.to (hun (j+1) A' (by omega) hn2 hp') (SubA.fresh (AJ (eq_false e32.symm) (AV g3)) (SubA.fresh (AV g2) (SubA.refl _))) [(n3,_),(n2,_)] (SubA.left [_,_] _) (dis2 (AV g3) (AV g2)) (fun ch D h dD=>⟨D,SubA.left _ _,h.mono hs fun e k h=>.cmF hq ho h⟩) ?_
  rintro v D ⟨t2,k,r2,A2,hq2,rfl,hr2,hk,hs2,hp2,hD⟩ dD
  refine⟨_,SubA.front dD hD, ?_⟩
  have g23:Vm.AA (PS pb cb lp lcap L k A2) n3=none:=hD.none (dD n3 (by simp[Vm.AA]))
  have g22:Vm.AA (PS pb cb lp lcap L k A2) n2=none:=hD.none (dD n2 (by simp[Vm.AA,e32]))
  clear fr
  simp only[PS,pB,List.cons_append,List.nil_append,Bt,Ba]
  intro ν fr;have nuE:=fr.m2 rfl
  have g5:Vm.AA ((n3,_)::(n2,_)::PS pb cb lp lcap L k A2) (ν 0)=none:=fr.2 0
  simp only[AF,↓AE,simprocAttr,Hc]
  have dst_:((ν 0=n3)=False)∧((ν 0=n2)=False)∧((n3=ν 0)=False)∧((n2=ν 0)=False):=(by simp[nuE]);generalize ν 0=n5 at dst_  g5⊢
  clear nuE fr dD hD D
  refine AM.of (AK.newX (Da ((n5,.cells #[.int .i64 r.op,.string r.nm,.string r.tx,.int .i64 r.n,.slice r.p r.len r.cap,.int .i64 r2.op,.string r2.nm,.string r2.tx,.int .i64 r2.n,.slice r2.p r2.len r2.cap] 60)::(n3,.cells #[.int .i64 r.op,.string r.nm,.string r.tx,.int .i64 r.n,.slice r.p r.len r.cap] 60)::(n2,.cells #[.int .i64 0,.string ⟨#[]⟩,.string ⟨#[]⟩,.int .i64 0,.slice none 0 0] 60)::PS pb cb lp lcap L k A2) 8 [r,r2] (some ⟨n5,0,none⟩) 2 (GY n5 _ r r2 _) (by simp)) (SubA.refl _) ?_)
  rintro v B ⟨p',c',rfl,hS'⟩ hdB
  have s5:SubA (PS pb cb lp lcap L k A2) ((n5,.cells #[.int .i64 r.op,.string r.nm,.string r.tx,.int .i64 r.n,.slice r.p r.len r.cap,.int .i64 r2.op,.string r2.nm,.string r2.tx,.int .i64 r2.n,.slice r2.p r2.len r2.cap] 60)::(n3,.cells #[.int .i64 r.op,.string r.nm,.string r.tx,.int .i64 r.n,.slice r.p r.len r.cap] 60)::(n2,.cells #[.int .i64 0,.string ⟨#[]⟩,.string ⟨#[]⟩,.int .i64 0,.slice none 0 0] 60)::PS pb cb lp lcap L k A2):=SubA.fresh g5 (SubA.fresh (AJ (eq_false e32.symm) g23) (SubA.fresh g22 (SubA.refl _)))
  have hp3:=hp2.app hdB s5
  have hs3:SubA A2 (A2++B):=SubA.left _ _
  have n53:Vm.AA B n3=none:=hdB n3 (by simp[Vm.AA,dst_])
  have n52:Vm.AA B n2=none:=hdB n2 (by simp[Vm.AA,dst_,e32])
  have n55:Vm.AA B n5=none:=hdB n5 (by simp[Vm.AA])
  have gA5:Vm.AA (PS pb cb lp lcap L k A2) n5=none:=(SubA.fresh (AJ (eq_false e32.symm) g23) (SubA.fresh g22 (SubA.refl _))).none g5
  have dBA:Dis B A2:=Dis.subr hdB (SubA.trans (show SubA A2 (PS pb cb lp lcap L k A2) from SubA.skip (by simp[hp2.nc]) (SubA.skip hp2.np (SubA.refl _))) s5)
  have sM:SubA ((n5,.cells #[.int .i64 r.op,.string r.nm,.string r.tx,.int .i64 r.n,.slice r.p r.len r.cap,.int .i64 r2.op,.string r2.nm,.string r2.tx,.int .i64 r2.n,.slice r2.p r2.len r2.cap] 60)::(n3,.cells #[.int .i64 r.op,.string r.nm,.string r.tx,.int .i64 r.n,.slice r.p r.len r.cap] 60)::(n2,.cells #[.int .i64 0,.string ⟨#[]⟩,.string ⟨#[]⟩,.int .i64 0,.slice none 0 0] 60)::PS pb cb lp lcap L k A2) ((n5,.cells #[.int .i64 r.op,.string r.nm,.string r.tx,.int .i64 r.n,.slice r.p r.len r.cap,.int .i64 r2.op,.string r2.nm,.string r2.tx,.int .i64 r2.n,.slice r2.p r2.len r2.cap] 60)::(n3,.cells #[.int .i64 r.op,.string r.nm,.string r.tx,.int .i64 r.n,.slice r.p r.len r.cap] 60)::(n2,.cells #[.int .i64 0,.string ⟨#[]⟩,.string ⟨#[]⟩,.int .i64 0,.slice none 0 0] 60)::PS pb cb lp lcap L k (A2++B)):=SubA.left _ B
  refine⟨(n5,.cells #[.int .i64 r.op,.string r.nm,.string r.tx,.int .i64 r.n,.slice r.p r.len r.cap,.int .i64 r2.op,.string r2.nm,.string r2.tx,.int .i64 r2.n,.slice r2.p r2.len r2.cap] 60)::(n3,.cells #[.int .i64 r.op,.string r.nm,.string r.tx,.int .i64 r.n,.slice r.p r.len r.cap] 60)::(n2,.cells #[.int .i64 0,.string ⟨#[]⟩,.string ⟨#[]⟩,.int .i64 0,.slice none 0 0] 60)::PS pb cb lp lcap L k (A2++B),SubA.both hdB.right (SubA.left _ _), ?_⟩
  simp only[PS,pB,Bt,Ba]at sM⊢
  intro ν fr
  simp only[AF,↓AE,simprocAttr,dst_,eq_true sM,eq_false e32]
  exact⟨EV 8 t t2,k,⟨8,eB,eB,0,p',2,c'⟩,A2++B,.cmO hq ho hq2,rfl,((hr.mono hs2).mono hs3).two (hr2.mono hs3) (hS'.mono dBA.symm.right),hk,SubA.trans (SubA.trans hs hs2) hs3,hp3,SubA.fresh (AJ (by simp[dst_]) (AJ (by simp[dst_]) (AD gA5 n55))) (SubA.fresh (AJ (eq_false e32.symm) (AD g23 n53)) (SubA.fresh (AD g22 n52) (SubA.refl _)))⟩
 | false=>
  refine AM.to (AM.of (X:=fun _ _=>False) (Fi pb cb lp lcap L A' hp' j x hx _ h1)) (SubA.fresh (AJ (eq_false e32.symm) g3) (SubA.fresh g2 (SubA.refl _))) [(n3,_),(n2,_)] (SubA.left [_,_] _) (dis2 g3 g2) (fun ch D h=>h.elim) ?_
  rintro v D ⟨rfl,hD⟩ dD
  refine⟨_,SubA.front dD hD, ?_⟩
  clear fr
  simp only[List.cons_append,List.nil_append]
  intro ν fr
  simp only[AF,↓AE,simprocAttr,m1,m5,hp'.en]
  clear hD dD D
  cases h2:Aw x 4 ⟨#[33,61]⟩with
  |true=>
   refine AM.to (AM.of (X:=fun _ _=>False) (Fj pb cb lp lcap L A' hp' j x hx _ h2)) (SubA.fresh (AJ (eq_false e32.symm) g3) (SubA.fresh g2 (SubA.refl _))) [(n3,_),(n2,_)] (SubA.left [_,_] _) (dis2 g3 g2) (fun ch D h=>h.elim) ?_
   rintro v D ⟨rfl,hD⟩ dD
   refine⟨_,SubA.front dD hD, ?_⟩
   clear fr
   simp only[List.cons_append,List.nil_append]
   intro ν fr
   simp only[AF,↓AE,simprocAttr,m1,m5,hp'.en]
   obtain⟨hn1,hn2⟩:=Cj hp'.he hx (by rw[B0 h2];decide)
   have ho:Ge (Af L j)=some 9:=by rw[hlx];unfold Ge;simp[h1,h2]
   rw[hn1]
   refine Av.plan [(0,0),(1,0),(2,0),(3,2),(4,1),(5,2)] [(n3,.cells #[.int .i64 r.op,.string r.nm,.string r.tx,.int .i64 r.n,.slice r.p r.len r.cap] 60)] (SubA.left [_] _) (by kernel_rfl) (by kernel_rfl) (by kernel_rfl) (by kernel_rfl) (by kernel_rfl) (by kernel_rfl) ?_
   clear fr hD dD D
   intro ν fr
   simp only[AF,↓AE,simprocAttr]
   refine AM.to (hun (j+1) A' (by omega) hn2 hp') (SubA.fresh (AJ (eq_false e32.symm) (AV g3)) (SubA.fresh (AV g2) (SubA.refl _))) [(n3,_),(n2,_)] (SubA.left [_,_] _) (dis2 (AV g3) (AV g2)) (fun ch D h dD=>⟨D,SubA.left _ _,h.mono hs fun e k h=>.cmF hq ho h⟩) ?_
   rintro v D ⟨t2,k,r2,A2,hq2,rfl,hr2,hk,hs2,hp2,hD⟩ dD
   refine⟨_,SubA.front dD hD, ?_⟩
   have g23:Vm.AA (PS pb cb lp lcap L k A2) n3=none:=hD.none (dD n3 (by simp[Vm.AA]))
   have g22:Vm.AA (PS pb cb lp lcap L k A2) n2=none:=hD.none (dD n2 (by simp[Vm.AA,e32]))
   clear fr
   simp only[PS,pB,List.cons_append,List.nil_append,Bt,Ba]
   intro ν fr;have nuE:=fr.m2 rfl
   have g5:Vm.AA ((n3,_)::(n2,_)::PS pb cb lp lcap L k A2) (ν 0)=none:=fr.2 0
   simp only[AF,↓AE,simprocAttr,Hc]
   have dst_:((ν 0=n3)=False)∧((ν 0=n2)=False)∧((n3=ν 0)=False)∧((n2=ν 0)=False):=(by simp[nuE]);generalize ν 0=n5 at dst_  g5⊢
   clear nuE fr dD hD D
   refine AM.of (AK.newX (Da ((n5,.cells #[.int .i64 r.op,.string r.nm,.string r.tx,.int .i64 r.n,.slice r.p r.len r.cap,.int .i64 r2.op,.string r2.nm,.string r2.tx,.int .i64 r2.n,.slice r2.p r2.len r2.cap] 60)::(n3,.cells #[.int .i64 r.op,.string r.nm,.string r.tx,.int .i64 r.n,.slice r.p r.len r.cap] 60)::(n2,.cells #[.int .i64 0,.string ⟨#[]⟩,.string ⟨#[]⟩,.int .i64 0,.slice none 0 0] 60)::PS pb cb lp lcap L k A2) 9 [r,r2] (some ⟨n5,0,none⟩) 2 (GY n5 _ r r2 _) (by simp)) (SubA.refl _) ?_)
   rintro v B ⟨p',c',rfl,hS'⟩ hdB
   have s5:SubA (PS pb cb lp lcap L k A2) ((n5,.cells #[.int .i64 r.op,.string r.nm,.string r.tx,.int .i64 r.n,.slice r.p r.len r.cap,.int .i64 r2.op,.string r2.nm,.string r2.tx,.int .i64 r2.n,.slice r2.p r2.len r2.cap] 60)::(n3,.cells #[.int .i64 r.op,.string r.nm,.string r.tx,.int .i64 r.n,.slice r.p r.len r.cap] 60)::(n2,.cells #[.int .i64 0,.string ⟨#[]⟩,.string ⟨#[]⟩,.int .i64 0,.slice none 0 0] 60)::PS pb cb lp lcap L k A2):=SubA.fresh g5 (SubA.fresh (AJ (eq_false e32.symm) g23) (SubA.fresh g22 (SubA.refl _)))
   have hp3:=hp2.app hdB s5
   have hs3:SubA A2 (A2++B):=SubA.left _ _
   have n53:Vm.AA B n3=none:=hdB n3 (by simp[Vm.AA,dst_])
   have n52:Vm.AA B n2=none:=hdB n2 (by simp[Vm.AA,dst_,e32])
   have n55:Vm.AA B n5=none:=hdB n5 (by simp[Vm.AA])
   have gA5:Vm.AA (PS pb cb lp lcap L k A2) n5=none:=(SubA.fresh (AJ (eq_false e32.symm) g23) (SubA.fresh g22 (SubA.refl _))).none g5
   have dBA:Dis B A2:=Dis.subr hdB (SubA.trans (show SubA A2 (PS pb cb lp lcap L k A2) from SubA.skip (by simp[hp2.nc]) (SubA.skip hp2.np (SubA.refl _))) s5)
   have sM:SubA ((n5,.cells #[.int .i64 r.op,.string r.nm,.string r.tx,.int .i64 r.n,.slice r.p r.len r.cap,.int .i64 r2.op,.string r2.nm,.string r2.tx,.int .i64 r2.n,.slice r2.p r2.len r2.cap] 60)::(n3,.cells #[.int .i64 r.op,.string r.nm,.string r.tx,.int .i64 r.n,.slice r.p r.len r.cap] 60)::(n2,.cells #[.int .i64 0,.string ⟨#[]⟩,.string ⟨#[]⟩,.int .i64 0,.slice none 0 0] 60)::PS pb cb lp lcap L k A2) ((n5,.cells #[.int .i64 r.op,.string r.nm,.string r.tx,.int .i64 r.n,.slice r.p r.len r.cap,.int .i64 r2.op,.string r2.nm,.string r2.tx,.int .i64 r2.n,.slice r2.p r2.len r2.cap] 60)::(n3,.cells #[.int .i64 r.op,.string r.nm,.string r.tx,.int .i64 r.n,.slice r.p r.len r.cap] 60)::(n2,.cells #[.int .i64 0,.string ⟨#[]⟩,.string ⟨#[]⟩,.int .i64 0,.slice none 0 0] 60)::PS pb cb lp lcap L k (A2++B)):=SubA.left _ B
   refine⟨(n5,.cells #[.int .i64 r.op,.string r.nm,.string r.tx,.int .i64 r.n,.slice r.p r.len r.cap,.int .i64 r2.op,.string r2.nm,.string r2.tx,.int .i64 r2.n,.slice r2.p r2.len r2.cap] 60)::(n3,.cells #[.int .i64 r.op,.string r.nm,.string r.tx,.int .i64 r.n,.slice r.p r.len r.cap] 60)::(n2,.cells #[.int .i64 0,.string ⟨#[]⟩,.string ⟨#[]⟩,.int .i64 0,.slice none 0 0] 60)::PS pb cb lp lcap L k (A2++B),SubA.both hdB.right (SubA.left _ _), ?_⟩
   simp only[PS,pB,Bt,Ba]at sM⊢
   intro ν fr
   simp only[AF,↓AE,simprocAttr,dst_,eq_true sM,eq_false e32]
   exact⟨EV 9 t t2,k,⟨9,eB,eB,0,p',2,c'⟩,A2++B,.cmO hq ho hq2,rfl,((hr.mono hs2).mono hs3).two (hr2.mono hs3) (hS'.mono dBA.symm.right),hk,SubA.trans (SubA.trans hs hs2) hs3,hp3,SubA.fresh (AJ (by simp[dst_]) (AJ (by simp[dst_]) (AD gA5 n55))) (SubA.fresh (AJ (eq_false e32.symm) (AD g23 n53)) (SubA.fresh (AD g22 n52) (SubA.refl _)))⟩
  | false=>
   refine AM.to (AM.of (X:=fun _ _=>False) (Fi pb cb lp lcap L A' hp' j x hx _ h2)) (SubA.fresh (AJ (eq_false e32.symm) g3) (SubA.fresh g2 (SubA.refl _))) [(n3,_),(n2,_)] (SubA.left [_,_] _) (dis2 g3 g2) (fun ch D h=>h.elim) ?_
   rintro v D ⟨rfl,hD⟩ dD
   refine⟨_,SubA.front dD hD, ?_⟩
   clear fr
   simp only[List.cons_append,List.nil_append]
   intro ν fr
   simp only[AF,↓AE,simprocAttr,m1,m5,hp'.en]
   clear hD dD D
   cases h3:Aw x 4 ⟨#[60]⟩with
   |true=>
    refine AM.to (AM.of (X:=fun _ _=>False) (Fj pb cb lp lcap L A' hp' j x hx _ h3)) (SubA.fresh (AJ (eq_false e32.symm) g3) (SubA.fresh g2 (SubA.refl _))) [(n3,_),(n2,_)] (SubA.left [_,_] _) (dis2 g3 g2) (fun ch D h=>h.elim) ?_
    rintro v D ⟨rfl,hD⟩ dD
    refine⟨_,SubA.front dD hD, ?_⟩
    clear fr
    simp only[List.cons_append,List.nil_append]
    intro ν fr
    simp only[AF,↓AE,simprocAttr,m1,m5,hp'.en]
    obtain⟨hn1,hn2⟩:=Cj hp'.he hx (by rw[B0 h3];decide)
    have ho:Ge (Af L j)=some 10:=by rw[hlx];unfold Ge;simp[h1,h2,h3]
    rw[hn1]
    refine Av.plan [(0,0),(1,0),(2,0),(3,2),(4,1),(5,2)] [(n3,.cells #[.int .i64 r.op,.string r.nm,.string r.tx,.int .i64 r.n,.slice r.p r.len r.cap] 60)] (SubA.left [_] _) (by kernel_rfl) (by kernel_rfl) (by kernel_rfl) (by kernel_rfl) (by kernel_rfl) (by kernel_rfl) ?_
    clear fr hD dD D
    intro ν fr
    simp only[AF,↓AE,simprocAttr]
    refine AM.to (hun (j+1) A' (by omega) hn2 hp') (SubA.fresh (AJ (eq_false e32.symm) (AV g3)) (SubA.fresh (AV g2) (SubA.refl _))) [(n3,_),(n2,_)] (SubA.left [_,_] _) (dis2 (AV g3) (AV g2)) (fun ch D h dD=>⟨D,SubA.left _ _,h.mono hs fun e k h=>.cmF hq ho h⟩) ?_
    rintro v D ⟨t2,k,r2,A2,hq2,rfl,hr2,hk,hs2,hp2,hD⟩ dD
    refine⟨_,SubA.front dD hD, ?_⟩
    have g23:Vm.AA (PS pb cb lp lcap L k A2) n3=none:=hD.none (dD n3 (by simp[Vm.AA]))
    have g22:Vm.AA (PS pb cb lp lcap L k A2) n2=none:=hD.none (dD n2 (by simp[Vm.AA,e32]))
    clear fr
    simp only[PS,pB,List.cons_append,List.nil_append,Bt,Ba]
    intro ν fr;have nuE:=fr.m2 rfl
    have g5:Vm.AA ((n3,_)::(n2,_)::PS pb cb lp lcap L k A2) (ν 0)=none:=fr.2 0
    simp only[AF,↓AE,simprocAttr,Hc]
    have dst_:((ν 0=n3)=False)∧((ν 0=n2)=False)∧((n3=ν 0)=False)∧((n2=ν 0)=False):=(by simp[nuE]);generalize ν 0=n5 at dst_  g5⊢
    clear nuE fr dD hD D
    refine AM.of (AK.newX (Da ((n5,.cells #[.int .i64 r.op,.string r.nm,.string r.tx,.int .i64 r.n,.slice r.p r.len r.cap,.int .i64 r2.op,.string r2.nm,.string r2.tx,.int .i64 r2.n,.slice r2.p r2.len r2.cap] 60)::(n3,.cells #[.int .i64 r.op,.string r.nm,.string r.tx,.int .i64 r.n,.slice r.p r.len r.cap] 60)::(n2,.cells #[.int .i64 0,.string ⟨#[]⟩,.string ⟨#[]⟩,.int .i64 0,.slice none 0 0] 60)::PS pb cb lp lcap L k A2) 10 [r,r2] (some ⟨n5,0,none⟩) 2 (GY n5 _ r r2 _) (by simp)) (SubA.refl _) ?_)
    rintro v B ⟨p',c',rfl,hS'⟩ hdB
    have s5:SubA (PS pb cb lp lcap L k A2) ((n5,.cells #[.int .i64 r.op,.string r.nm,.string r.tx,.int .i64 r.n,.slice r.p r.len r.cap,.int .i64 r2.op,.string r2.nm,.string r2.tx,.int .i64 r2.n,.slice r2.p r2.len r2.cap] 60)::(n3,.cells #[.int .i64 r.op,.string r.nm,.string r.tx,.int .i64 r.n,.slice r.p r.len r.cap] 60)::(n2,.cells #[.int .i64 0,.string ⟨#[]⟩,.string ⟨#[]⟩,.int .i64 0,.slice none 0 0] 60)::PS pb cb lp lcap L k A2):=SubA.fresh g5 (SubA.fresh (AJ (eq_false e32.symm) g23) (SubA.fresh g22 (SubA.refl _)))
    have hp3:=hp2.app hdB s5
    have hs3:SubA A2 (A2++B):=SubA.left _ _
    have n53:Vm.AA B n3=none:=hdB n3 (by simp[Vm.AA,dst_])
    have n52:Vm.AA B n2=none:=hdB n2 (by simp[Vm.AA,dst_,e32])
    have n55:Vm.AA B n5=none:=hdB n5 (by simp[Vm.AA])
    have gA5:Vm.AA (PS pb cb lp lcap L k A2) n5=none:=(SubA.fresh (AJ (eq_false e32.symm) g23) (SubA.fresh g22 (SubA.refl _))).none g5
    have dBA:Dis B A2:=Dis.subr hdB (SubA.trans (show SubA A2 (PS pb cb lp lcap L k A2) from SubA.skip (by simp[hp2.nc]) (SubA.skip hp2.np (SubA.refl _))) s5)
    have sM:SubA ((n5,.cells #[.int .i64 r.op,.string r.nm,.string r.tx,.int .i64 r.n,.slice r.p r.len r.cap,.int .i64 r2.op,.string r2.nm,.string r2.tx,.int .i64 r2.n,.slice r2.p r2.len r2.cap] 60)::(n3,.cells #[.int .i64 r.op,.string r.nm,.string r.tx,.int .i64 r.n,.slice r.p r.len r.cap] 60)::(n2,.cells #[.int .i64 0,.string ⟨#[]⟩,.string ⟨#[]⟩,.int .i64 0,.slice none 0 0] 60)::PS pb cb lp lcap L k A2) ((n5,.cells #[.int .i64 r.op,.string r.nm,.string r.tx,.int .i64 r.n,.slice r.p r.len r.cap,.int .i64 r2.op,.string r2.nm,.string r2.tx,.int .i64 r2.n,.slice r2.p r2.len r2.cap] 60)::(n3,.cells #[.int .i64 r.op,.string r.nm,.string r.tx,.int .i64 r.n,.slice r.p r.len r.cap] 60)::(n2,.cells #[.int .i64 0,.string ⟨#[]⟩,.string ⟨#[]⟩,.int .i64 0,.slice none 0 0] 60)::PS pb cb lp lcap L k (A2++B)):=SubA.left _ B
    refine⟨(n5,.cells #[.int .i64 r.op,.string r.nm,.string r.tx,.int .i64 r.n,.slice r.p r.len r.cap,.int .i64 r2.op,.string r2.nm,.string r2.tx,.int .i64 r2.n,.slice r2.p r2.len r2.cap] 60)::(n3,.cells #[.int .i64 r.op,.string r.nm,.string r.tx,.int .i64 r.n,.slice r.p r.len r.cap] 60)::(n2,.cells #[.int .i64 0,.string ⟨#[]⟩,.string ⟨#[]⟩,.int .i64 0,.slice none 0 0] 60)::PS pb cb lp lcap L k (A2++B),SubA.both hdB.right (SubA.left _ _), ?_⟩
    simp only[PS,pB,Bt,Ba]at sM⊢
    intro ν fr
    simp only[AF,↓AE,simprocAttr,dst_,eq_true sM,eq_false e32]
    exact⟨EV 10 t t2,k,⟨10,eB,eB,0,p',2,c'⟩,A2++B,.cmO hq ho hq2,rfl,((hr.mono hs2).mono hs3).two (hr2.mono hs3) (hS'.mono dBA.symm.right),hk,SubA.trans (SubA.trans hs hs2) hs3,hp3,SubA.fresh (AJ (by simp[dst_]) (AJ (by simp[dst_]) (AD gA5 n55))) (SubA.fresh (AJ (eq_false e32.symm) (AD g23 n53)) (SubA.fresh (AD g22 n52) (SubA.refl _)))⟩
   | false=>
    refine AM.to (AM.of (X:=fun _ _=>False) (Fi pb cb lp lcap L A' hp' j x hx _ h3)) (SubA.fresh (AJ (eq_false e32.symm) g3) (SubA.fresh g2 (SubA.refl _))) [(n3,_),(n2,_)] (SubA.left [_,_] _) (dis2 g3 g2) (fun ch D h=>h.elim) ?_
    rintro v D ⟨rfl,hD⟩ dD
    refine⟨_,SubA.front dD hD, ?_⟩
    clear fr
    simp only[List.cons_append,List.nil_append]
    intro ν fr
    simp only[AF,↓AE,simprocAttr,m1,m5,hp'.en]
    clear hD dD D
    cases h4:Aw x 4 ⟨#[60,61]⟩with
    |true=>
     refine AM.to (AM.of (X:=fun _ _=>False) (Fj pb cb lp lcap L A' hp' j x hx _ h4)) (SubA.fresh (AJ (eq_false e32.symm) g3) (SubA.fresh g2 (SubA.refl _))) [(n3,_),(n2,_)] (SubA.left [_,_] _) (dis2 g3 g2) (fun ch D h=>h.elim) ?_
     rintro v D ⟨rfl,hD⟩ dD
     refine⟨_,SubA.front dD hD, ?_⟩
     clear fr
     simp only[List.cons_append,List.nil_append]
     intro ν fr
     simp only[AF,↓AE,simprocAttr,m1,m5,hp'.en]
     obtain⟨hn1,hn2⟩:=Cj hp'.he hx (by rw[B0 h4];decide)
     have ho:Ge (Af L j)=some 11:=by rw[hlx];unfold Ge;simp[h1,h2,h3,h4]
     rw[hn1]
     refine Av.plan [(0,0),(1,0),(2,0),(3,2),(4,1),(5,2)] [(n3,.cells #[.int .i64 r.op,.string r.nm,.string r.tx,.int .i64 r.n,.slice r.p r.len r.cap] 60)] (SubA.left [_] _) (by kernel_rfl) (by kernel_rfl) (by kernel_rfl) (by kernel_rfl) (by kernel_rfl) (by kernel_rfl) ?_
     clear fr hD dD D
     intro ν fr
     simp only[AF,↓AE,simprocAttr]
     refine AM.to (hun (j+1) A' (by omega) hn2 hp') (SubA.fresh (AJ (eq_false e32.symm) (AV g3)) (SubA.fresh (AV g2) (SubA.refl _))) [(n3,_),(n2,_)] (SubA.left [_,_] _) (dis2 (AV g3) (AV g2)) (fun ch D h dD=>⟨D,SubA.left _ _,h.mono hs fun e k h=>.cmF hq ho h⟩) ?_
     rintro v D ⟨t2,k,r2,A2,hq2,rfl,hr2,hk,hs2,hp2,hD⟩ dD
     refine⟨_,SubA.front dD hD, ?_⟩
     have g23:Vm.AA (PS pb cb lp lcap L k A2) n3=none:=hD.none (dD n3 (by simp[Vm.AA]))
     have g22:Vm.AA (PS pb cb lp lcap L k A2) n2=none:=hD.none (dD n2 (by simp[Vm.AA,e32]))
     clear fr
     simp only[PS,pB,List.cons_append,List.nil_append,Bt,Ba]
     intro ν fr;have nuE:=fr.m2 rfl
     have g5:Vm.AA ((n3,_)::(n2,_)::PS pb cb lp lcap L k A2) (ν 0)=none:=fr.2 0
     simp only[AF,↓AE,simprocAttr,Hc]
     have dst_:((ν 0=n3)=False)∧((ν 0=n2)=False)∧((n3=ν 0)=False)∧((n2=ν 0)=False):=(by simp[nuE]);generalize ν 0=n5 at dst_  g5⊢
     clear nuE fr dD hD D
     refine AM.of (AK.newX (Da ((n5,.cells #[.int .i64 r.op,.string r.nm,.string r.tx,.int .i64 r.n,.slice r.p r.len r.cap,.int .i64 r2.op,.string r2.nm,.string r2.tx,.int .i64 r2.n,.slice r2.p r2.len r2.cap] 60)::(n3,.cells #[.int .i64 r.op,.string r.nm,.string r.tx,.int .i64 r.n,.slice r.p r.len r.cap] 60)::(n2,.cells #[.int .i64 0,.string ⟨#[]⟩,.string ⟨#[]⟩,.int .i64 0,.slice none 0 0] 60)::PS pb cb lp lcap L k A2) 11 [r,r2] (some ⟨n5,0,none⟩) 2 (GY n5 _ r r2 _) (by simp)) (SubA.refl _) ?_)
     rintro v B ⟨p',c',rfl,hS'⟩ hdB
     have s5:SubA (PS pb cb lp lcap L k A2) ((n5,.cells #[.int .i64 r.op,.string r.nm,.string r.tx,.int .i64 r.n,.slice r.p r.len r.cap,.int .i64 r2.op,.string r2.nm,.string r2.tx,.int .i64 r2.n,.slice r2.p r2.len r2.cap] 60)::(n3,.cells #[.int .i64 r.op,.string r.nm,.string r.tx,.int .i64 r.n,.slice r.p r.len r.cap] 60)::(n2,.cells #[.int .i64 0,.string ⟨#[]⟩,.string ⟨#[]⟩,.int .i64 0,.slice none 0 0] 60)::PS pb cb lp lcap L k A2):=SubA.fresh g5 (SubA.fresh (AJ (eq_false e32.symm) g23) (SubA.fresh g22 (SubA.refl _)))
     have hp3:=hp2.app hdB s5
     have hs3:SubA A2 (A2++B):=SubA.left _ _
     have n53:Vm.AA B n3=none:=hdB n3 (by simp[Vm.AA,dst_])
     have n52:Vm.AA B n2=none:=hdB n2 (by simp[Vm.AA,dst_,e32])
     have n55:Vm.AA B n5=none:=hdB n5 (by simp[Vm.AA])
     have gA5:Vm.AA (PS pb cb lp lcap L k A2) n5=none:=(SubA.fresh (AJ (eq_false e32.symm) g23) (SubA.fresh g22 (SubA.refl _))).none g5
     have dBA:Dis B A2:=Dis.subr hdB (SubA.trans (show SubA A2 (PS pb cb lp lcap L k A2) from SubA.skip (by simp[hp2.nc]) (SubA.skip hp2.np (SubA.refl _))) s5)
     have sM:SubA ((n5,.cells #[.int .i64 r.op,.string r.nm,.string r.tx,.int .i64 r.n,.slice r.p r.len r.cap,.int .i64 r2.op,.string r2.nm,.string r2.tx,.int .i64 r2.n,.slice r2.p r2.len r2.cap] 60)::(n3,.cells #[.int .i64 r.op,.string r.nm,.string r.tx,.int .i64 r.n,.slice r.p r.len r.cap] 60)::(n2,.cells #[.int .i64 0,.string ⟨#[]⟩,.string ⟨#[]⟩,.int .i64 0,.slice none 0 0] 60)::PS pb cb lp lcap L k A2) ((n5,.cells #[.int .i64 r.op,.string r.nm,.string r.tx,.int .i64 r.n,.slice r.p r.len r.cap,.int .i64 r2.op,.string r2.nm,.string r2.tx,.int .i64 r2.n,.slice r2.p r2.len r2.cap] 60)::(n3,.cells #[.int .i64 r.op,.string r.nm,.string r.tx,.int .i64 r.n,.slice r.p r.len r.cap] 60)::(n2,.cells #[.int .i64 0,.string ⟨#[]⟩,.string ⟨#[]⟩,.int .i64 0,.slice none 0 0] 60)::PS pb cb lp lcap L k (A2++B)):=SubA.left _ B
     refine⟨(n5,.cells #[.int .i64 r.op,.string r.nm,.string r.tx,.int .i64 r.n,.slice r.p r.len r.cap,.int .i64 r2.op,.string r2.nm,.string r2.tx,.int .i64 r2.n,.slice r2.p r2.len r2.cap] 60)::(n3,.cells #[.int .i64 r.op,.string r.nm,.string r.tx,.int .i64 r.n,.slice r.p r.len r.cap] 60)::(n2,.cells #[.int .i64 0,.string ⟨#[]⟩,.string ⟨#[]⟩,.int .i64 0,.slice none 0 0] 60)::PS pb cb lp lcap L k (A2++B),SubA.both hdB.right (SubA.left _ _), ?_⟩
     simp only[PS,pB,Bt,Ba]at sM⊢
     intro ν fr
     simp only[AF,↓AE,simprocAttr,dst_,eq_true sM,eq_false e32]
     exact⟨EV 11 t t2,k,⟨11,eB,eB,0,p',2,c'⟩,A2++B,.cmO hq ho hq2,rfl,((hr.mono hs2).mono hs3).two (hr2.mono hs3) (hS'.mono dBA.symm.right),hk,SubA.trans (SubA.trans hs hs2) hs3,hp3,SubA.fresh (AJ (by simp[dst_]) (AJ (by simp[dst_]) (AD gA5 n55))) (SubA.fresh (AJ (eq_false e32.symm) (AD g23 n53)) (SubA.fresh (AD g22 n52) (SubA.refl _)))⟩
    | false=>
     refine AM.to (AM.of (X:=fun _ _=>False) (Fi pb cb lp lcap L A' hp' j x hx _ h4)) (SubA.fresh (AJ (eq_false e32.symm) g3) (SubA.fresh g2 (SubA.refl _))) [(n3,_),(n2,_)] (SubA.left [_,_] _) (dis2 g3 g2) (fun ch D h=>h.elim) ?_
     rintro v D ⟨rfl,hD⟩ dD
     refine⟨_,SubA.front dD hD, ?_⟩
     clear fr
     simp only[List.cons_append,List.nil_append]
     intro ν fr
     simp only[AF,↓AE,simprocAttr,m1,m5,hp'.en]
     clear hD dD D
     have hc:Ge (Af L j)=none:=by rw[hlx];unfold Ge;simp[h1,h2,h3,h4]
     cases h5:Aw x 1 ⟨#[105,110]⟩with
     |true=>
      have hb:Mp (Af L j)=true:=by rw[hlx];exact h5
      obtain⟨hn1,hn2⟩:=Cj hp'.he hx (by rw[B0 h5];decide)
      refine AM.to (AM.of (X:=fun _ _=>False) (Ka pb cb lp lcap L A' hp' j x hx _ h5)) (SubA.fresh (AJ (eq_false e32.symm) g3) (SubA.fresh g2 (SubA.refl _))) [(n3,_),(n2,_)] (SubA.left [_,_] _) (dis2 g3 g2) (fun ch D h=>h.elim) ?_
      rintro v D ⟨rfl,hD⟩ dD
      refine⟨_,SubA.front dD hD, ?_⟩
      clear fr
      simp only[List.cons_append,List.nil_append]
      intro ν fr
      simp only[AF,↓AE,simprocAttr,dst_]
      rw[hn1]
      clear hD dD D fr
      refine AM.to (hch (j+1) A' t r (by omega) hn2 hp' hr) (SubA.fresh (AJ (eq_false e32.symm) (AV g3)) (SubA.fresh (AV g2) (SubA.refl _))) [(n3,_),(n2,_)] (SubA.left [_,_] _) (dis2 (AV g3) (AV g2)) (fun ch D h dD=>⟨D,SubA.left _ _,h.mono hs fun e k h=>YQ.to hq hc hb h⟩) ?_
      rintro v D ⟨t2,k,r2,A2,hq2,rfl,hr2,hk,hs2,hp2,hD⟩ dD
      refine⟨_,SubA.front dD hD, ?_⟩
      have g23:Vm.AA (PS pb cb lp lcap L k A2) n3=none:=hD.none (dD n3 (by simp[Vm.AA]))
      have g22:Vm.AA (PS pb cb lp lcap L k A2) n2=none:=hD.none (dD n2 (by simp[Vm.AA,e32]))
      simp only[List.cons_append,List.nil_append,Bt,Ba]
      intro ν fr
      simp only[AF,↓AE,simprocAttr,dst_]
      exact⟨t2,k,r2,A2,YQ.to hq hc hb hq2,rfl,hr2,hk,SubA.trans hs hs2,hp2,SubA.fresh (AJ (eq_false e32.symm) g23) (SubA.fresh g22 (SubA.refl _))⟩
     |false=>
      have hb:Mp (Af L j)=false:=by rw[hlx];exact h5
      refine AM.to (AM.of (X:=fun _ _=>False) (KZ pb cb lp lcap L A' hp' j x hx _ h5)) (SubA.fresh (AJ (eq_false e32.symm) g3) (SubA.fresh g2 (SubA.refl _))) [(n3,_),(n2,_)] (SubA.left [_,_] _) (dis2 g3 g2) (fun ch D h=>h.elim) ?_
      rintro v D ⟨rfl,hD⟩ dD
      refine⟨_,SubA.front dD hD, ?_⟩
      clear fr
      simp only[List.cons_append,List.nil_append]
      intro ν fr
      simp only[AF,↓AE,simprocAttr,dst_]
      exact⟨t,j,r,A',.cmN hq hc hb,rfl,hr,hj,hs,hp',SubA.fresh (AJ (eq_false e32.symm) (AV g3)) (SubA.fresh (AV g2) (SubA.refl _))⟩
end Go.Proofs.YtgmfcdeknaeikaaGreatDoor
