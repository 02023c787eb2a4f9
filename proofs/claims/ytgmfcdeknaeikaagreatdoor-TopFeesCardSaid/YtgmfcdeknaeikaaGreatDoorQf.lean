/-
The parser: choices, all levels joined, read.
Conditions: none.
-/
import Derived.Test.YtgmfcdeknaeikaaGreatDoorQe
import Derived.Tactics
import Derived.Tactics2
set_option linter.unusedSimpArgs false
set_option linter.unusedVariables false
namespace Go.Proofs.YtgmfcdeknaeikaaGreatDoor
open Go.Vm
set_option maxHeartbeats 4000000
set_option maxRecDepth 20000
theorem oy(b:Nat)(e:TypeId)(T:List Xr)(h:T.length≤1000000):BU Ba 5 e (.slice (some ⟨b,0,none⟩) T.length T.length) [(b,.cells (T.flatMap Ba).toArray e)] T:=.inl (Ea.at (by rw[Gv Ba 5 (fun _=>rfl)]) (by simp only[maxLen];omega))
theorem _root_.Go.Vm.SubA.past{Q X M:AH}(d:Dis Q X)(h:SubA X M):SubA X (Q++M):=fun b o hl=>by
 rw[BA,d b (by rw[hl];simp)]
 exact h b o hl
theorem ZM{E Q:AH}{a b:Nat}{o u:Obj}(ha:Vm.AA E a=none)(hb:Vm.AA E b=none)(d:Dis E Q):Dis E ((a,o)::(b,u)::Q):=fun x hx=>by
 simp only[Vm.AA]at hx
 by_cases h1:a=x
 ·rw[←h1];exact ha
 ·rw[if_neg h1]at hx
  by_cases h2:b=x
  ·rw[←h2];exact hb
  ·rw[if_neg h2]at hx;exact d x hx
def ua(L:List LR)(xs:List Xs)(j:Nat)(z:Rz):Prop:=(Aw (Af L j) 4 ⟨#[44]⟩=true∧Pr L (.ch xs) (j+1) z)∨(Aw (Af L j) 4 ⟨#[44]⟩=false∧Aw (Af L j) 4 ⟨#[41]⟩=true∧z=.ok (.mk 15 eB eB 0 xs) (j+1))∨(Aw (Af L j) 4 ⟨#[44]⟩=false∧Aw (Af L j) 4 ⟨#[41]⟩=false∧z=.er 2 j)
theorem fW(pb cb:Nat)(lp:Option Addr)(lcap:Nat)(L:List LR)(A:AH)(hp:PsOk pb cb lp L A)(i:Nat)(hi:i<L.length)(t:Xs)(r:Xr)(hr:ExR A t r)(hun: ∀k A',i<k→k<L.length→PsOk pb cb lp L A'→Kq 191 3 pb cb lp lcap L A' k):AM Tryz.prog 193 #[.pointer (some ⟨pb,0,none⟩),.agg #[.int .i64 r.op,.string r.nm,.string r.tx,.int .i64 r.n,.slice r.p r.len r.cap]] (PS pb cb lp lcap L i A) (K6 L A (YQ L i t)) (fun u_ A_=>eU pb cb lp lcap L A (YQ L i t) u_ A_):=by
 refine Ao ⟨Tryz.prog,193,Tryz.f193,26,[0,1,3,4,5],⟨[200,191,192,149],some (K6 L A (YQ L i t))⟩,[],_⟩ rfl (args:=[_,_]) Tryz.func193 rfl (by kernel_rfl) Tryz.ntmps193 (by simp) (by kernel_rfl) ?_
 intro ν fr;have nuE:=fr.nu
 have f0:=fr.2 0
 have g4:=fr.2 1
 obtain⟨x,hx,ex⟩:=CA hi
 simp only[AF,↓AE,simprocAttr]
 have dst_:((ν 0=ν 1)=False)∧((ν 1=ν 0)=False):=(by simp[nuE]);generalize ν 0=n3 at dst_  f0 g4 ⊢;generalize ν 1=n4 at dst_  f0 g4⊢
 clear nuE fr
 have d34:=dst_
 refine AM.own (Y:=[(n4,_),(n3,_)]) (HK pb cb lp lcap L A hp i x hx _) (dis2 g4 f0) (fun ch D ⟨h1,z,h7,h8,h9⟩=>⟨2,i,z,by decide,.inl ⟨by rw[ex];exact h1,rfl⟩,h7,h8,SubA.trans (SubA.trans (FW hp) h9) (SubA.left _ _)⟩) ?_
 rintro v D ⟨h1,hD⟩ dD
 refine⟨_,hD, ?_⟩
 obtain⟨q1,q2⟩:=Cj hp.he hx (by rw[B0 h1];decide)
 rw[q1]
 have h1':Aw (Af L i) 4 ⟨#[40]⟩=true:=by rw[ex];exact h1
 clear hD dD D
 simp only[List.cons_append,List.nil_append]
 intro ν fr
 simp only[AF,↓AE,simprocAttr]
 refine Av.plan [(0,0),(1,0),(2,0),(3,2),(4,0)] [(n3,.cells #[.int .i64 r.op,.string r.nm,.string r.tx,.int .i64 r.n,.slice r.p r.len r.cap] 60)] (SubA.trans (SubA.left [_] _) (SubA.fresh (AJ d34.1 (AV g4)) (SubA.refl _))) (by kernel_rfl) (by kernel_rfl) (by kernel_rfl) (by kernel_rfl) (by kernel_rfl) (by kernel_rfl) ?_
 clear fr
 intro ν fr
 simp only[AF,↓AE,simprocAttr]
 clear fr
 refine AM.own (Y:=[(n4,_),(n3,_)]) (hun (i+1) A (by omega) q2 hp) (dis2 (AV g4) (AV f0)) (fun ch D h=>(h.at (SubA.left _ _)).mono (SubA.refl _) fun e k h=>.inr ⟨h1',.chE h⟩) ?_
 rintro v D ⟨t2,k,r2,A2,hq,rfl,hr2,hk,hs,hp2,hD⟩ dD
 refine⟨_,hD, ?_⟩
 have g23:Vm.AA (PS pb cb lp lcap L k A2) n3=none:=hD.none (dD n3 (by simp[Vm.AA,d34]))
 have g24:Vm.AA (PS pb cb lp lcap L k A2) n4=none:=hD.none (dD n4 (by simp[Vm.AA]))
 clear hD dD D
 simp only[List.cons_append,List.nil_append,Bt,Ba]
 intro ν fr;have nuE:=fr.m2 rfl
 have g5:=fr.2 0
 simp only[AF,↓AE,simprocAttr,d34,Hc]
 have dst_:((ν 0=n4)=False)∧((ν 0=n3)=False)∧((n4=ν 0)=False)∧((n3=ν 0)=False):=(by simp[nuE]);generalize ν 0=n5 at dst_  g5⊢
 clear nuE fr
 obtain⟨v,Q,xs,rs,hv,hQ,ho,hlen,hxs,dQ,hR,hkl⟩: ∃(v:Value) (Q:AH) (xs:List Xs) (rs:List Xr),v=.slice (some ⟨n5,0,none⟩) 2 2∧Q=[(n5,.cells #[.int .i64 r.op,.string r.nm,.string r.tx,.int .i64 r.n,.slice r.p r.len r.cap,.int .i64 r2.op,.string r2.nm,.string r2.tx,.int .i64 r2.n,.slice r2.p r2.len r2.cap] 60)]∧BU Ba 5 60 v Q rs∧rs.length=xs.length∧(∀(m:Nat) (y:Xs) (s:Xr),xs[m]? =some y→rs[m]? =some s→ExR A2 y s)∧Dis Q ((n4,.cells #[.int .i64 0,.string ⟨#[]⟩,.string ⟨#[]⟩,.int .i64 0,.slice none 0 0] 60)::(n3,.cells #[.int .i64 r.op,.string r.nm,.string r.tx,.int .i64 r.n,.slice r.p r.len r.cap] 60)::PS pb cb lp lcap L k A2)∧(∀z,ua L xs k z→YQ L i t z)∧rs.length≤k+2:=by
  refine⟨_,_,[t,t2],[r,r2],rfl,rfl, ?_,rfl, ?_,Dis.one g5, ?_,by simp⟩
  ·exact oy n5 _ [r,r2] (by simp)
  ·intro m y s hy hs'
   match m with
   |0=>simp at hy hs';subst hy;subst hs';exact hr.mono hs
   |1=>simp at hy hs';subst hy;subst hs';exact hr2
   |m+2=>simp at hy
  ·rintro z (⟨c1,c2⟩|⟨c1,c2,rfl⟩|⟨c1,c2,rfl⟩)
   ·exact .inr ⟨h1',.chM hq c1 c2⟩
   ·exact .inr ⟨h1',.chO hq c1 c2⟩
   ·exact .inr ⟨h1',.chB hq c1 c2⟩
 rw[show(5,some (Value.slice (some ⟨n5,0,none⟩) 2 2))=(5,some v) by rw[hv]]
 refine AR.at (A:=(n4,.cells #[.int .i64 0,.string ⟨#[]⟩,.string ⟨#[]⟩,.int .i64 0,.slice none 0 0] 60)::(n3,.cells #[.int .i64 r.op,.string r.nm,.string r.tx,.int .i64 r.n,.slice r.p r.len r.cap] 60)::(Q++PS pb cb lp lcap L k A2)) (by
  rw[show((n4,.cells #[.int .i64 0,.string ⟨#[]⟩,.string ⟨#[]⟩,.int .i64 0,.slice none 0 0] 60)::(n3,.cells #[.int .i64 r.op,.string r.nm,.string r.tx,.int .i64 r.n,.slice r.p r.len r.cap] 60)::(Q++PS pb cb lp lcap L k A2))=[(n4,.cells #[.int .i64 0,.string ⟨#[]⟩,.string ⟨#[]⟩,.int .i64 0,.slice none 0 0] 60),(n3,.cells #[.int .i64 r.op,.string r.nm,.string r.tx,.int .i64 r.n,.slice r.p r.len r.cap] 60)]++(Q++PS pb cb lp lcap L k A2) from rfl]
  have e:=dQ.right
  rw[hQ]at e⊢
  exact SubA.both (SubA.trans (SubA.left [(n4,.cells #[.int .i64 0,.string ⟨#[]⟩,.string ⟨#[]⟩,.int .i64 0,.slice none 0 0] 60),(n3,.cells #[.int .i64 r.op,.string r.nm,.string r.tx,.int .i64 r.n,.slice r.p r.len r.cap] 60)] _) e) (SubA.both (SubA.left _ _) (SubA.trans (dis2 g24 g23).symm.right e))) ?_
 have hik:i<k:=by have:=hq.le;omega
 clear hv hQ hq hr2 t2 r2 g5 dst_ hr
 generalize hm:L.length - k=m
 induction m using Nat.strongRecOn generalizing v Q xs rs k A2 with
 | ind m ih=>
  obtain⟨p,cap,rfl,hc1,hS⟩:=BU.read (f:=Ba) (n:=5) (fun x=>rfl) ho
  obtain⟨y,hy,hly⟩:=CA hk
  obtain⟨⟨m1,m2⟩,m3,m4⟩:=hp2.far g23
  obtain⟨⟨m5,m6⟩,m7,m8⟩:=hp2.far g24
  have dPS:Dis (PS pb cb lp lcap L k A2) Q:=(Dis.subr dQ (dis2 g24 g23).symm.right).symm
  have dY: ∀j',Dis (PS pb cb lp lcap L j' A2) ((n4,.cells #[.int .i64 0,.string ⟨#[]⟩,.string ⟨#[]⟩,.int .i64 0,.slice none 0 0] 60)::(n3,.cells #[.int .i64 r.op,.string r.nm,.string r.tx,.int .i64 r.n,.slice r.p r.len r.cap] 60)::Q):=fun j'=>ZM (AV g24) (AV g23) fun x hx=>AV (dPS x hx)
  have Qn4:Vm.AA Q n4=none:=dQ n4 (by simp[Vm.AA])
  have Qn3:Vm.AA Q n3=none:=dQ n3 (by simp[Vm.AA,d34])
  have Qcb:Vm.AA Q cb=none:=dPS.symm cb (by simp[PS,Vm.AA])
  have Qpb:Vm.AA Q pb=none:=dPS.symm pb (by simp[PS,Vm.AA,hp2.en])
  have lcb:Vm.AA ((n4,.cells #[.int .i64 0,.string ⟨#[]⟩,.string ⟨#[]⟩,.int .i64 0,.slice none 0 0] 60)::(n3,.cells #[.int .i64 r.op,.string r.nm,.string r.tx,.int .i64 r.n,.slice r.p r.len r.cap] 60)::(Q++PS pb cb lp lcap L k A2)) cb=some (Dj lp lcap L k):=by simp[Vm.AA,m3,m7,BA,Qcb,PS]
  have lpb:Vm.AA ((n4,.cells #[.int .i64 0,.string ⟨#[]⟩,.string ⟨#[]⟩,.int .i64 0,.slice none 0 0] 60)::(n3,.cells #[.int .i64 r.op,.string r.nm,.string r.tx,.int .i64 r.n,.slice r.p r.len r.cap] 60)::(Q++PS pb cb lp lcap L k A2)) pb=some (pB cb):=by simp[Vm.AA,m1,m5,BA,Qpb,PS,hp2.en]
  simp only[Vm.AA,m1,m3,m5,m7,if_false,pB]at lcb lpb
  refine AR.intro (by kernel_rfl) ?_
  intro ν fr
  simp only[AF,↓AE,simprocAttr,lpb,m1,m5]
  cases hmk:Aw y 4 ⟨#[44]⟩with
  | true=>
   refine AM.own (Y:=(n4,.cells #[.int .i64 0,.string ⟨#[]⟩,.string ⟨#[]⟩,.int .i64 0,.slice none 0 0] 60)::(n3,.cells #[.int .i64 r.op,.string r.nm,.string r.tx,.int .i64 r.n,.slice r.p r.len r.cap] 60)::Q) (AM.of (X:=fun _ _=>False) (Fj pb cb lp lcap L A2 hp2 k y hy _ hmk)) (dY _) (fun ch D h=>h.elim) ?_
   rintro v D ⟨rfl,hD⟩ dD
   refine⟨_,hD, ?_⟩
   obtain⟨q3,q4⟩:=Cj hp2.he hy (by rw[B0 hmk];decide)
   have hmk':Aw (Af L k) 4 ⟨#[44]⟩=true:=by rw[hly];exact hmk
   rw[q3]
   clear hD dD D fr
   simp only[List.cons_append]
   intro ν fr
   simp only[AF,↓AE,simprocAttr]
   clear fr
   refine AM.own (Y:=(n4,.cells #[.int .i64 0,.string ⟨#[]⟩,.string ⟨#[]⟩,.int .i64 0,.slice none 0 0] 60)::(n3,.cells #[.int .i64 r.op,.string r.nm,.string r.tx,.int .i64 r.n,.slice r.p r.len r.cap] 60)::Q) (hun (k+1) A2 (by omega) q4 hp2) (dY _) (fun ch D h=>(h.at (SubA.left _ _)).mono hs fun e j h=>hR _ (.inl ⟨hmk',.chE h⟩)) ?_
   rintro v D ⟨t2,k2,r2,A3,hq2,rfl,hr2,hk2,hs2,hp3,hD⟩ dD
   refine⟨_,hD, ?_⟩
   have dY3:Dis (PS pb cb lp lcap L k2 A3) ((n4,.cells #[.int .i64 0,.string ⟨#[]⟩,.string ⟨#[]⟩,.int .i64 0,.slice none 0 0] 60)::(n3,.cells #[.int .i64 r.op,.string r.nm,.string r.tx,.int .i64 r.n,.slice r.p r.len r.cap] 60)::Q):=fun x hx=>hD.none (dD x hx)
   clear hD dD D
   simp only[List.cons_append,Bt,Ba]
   intro ν fr;have nuE:=fr.m2 rfl
   have g6:=fr.2 0
   simp only[AF,↓AE,simprocAttr,U5]
   have dst_:((ν 0=n4)=False)∧((ν 0=n3)=False)∧((n4=ν 0)=False)∧((n3=ν 0)=False):=(by simp[nuE]);generalize ν 0=n6 at dst_  g6⊢
   clear nuE fr
   have hbd:rs.length≤100002:=by have:=hp2.hl;omega
   have sQ:SubA Q ((n4,.cells #[.int .i64 0,.string ⟨#[]⟩,.string ⟨#[]⟩,.int .i64 0,.slice none 0 0] 60)::(n3,.cells #[.int .i64 r.op,.string r.nm,.string r.tx,.int .i64 r.n,.slice r.p r.len r.cap] 60)::(Q++PS pb cb lp lcap L k2 A3)):=SubA.fresh (AJ d34.1 (AD Qn4 (dY3 n4 (by simp[Vm.AA])))) (SubA.fresh (AD Qn3 (dY3 n3 (by simp[Vm.AA,d34]))) (SubA.left _ _))
   refine D0 (m:=1) (news:=Ba r2) (B:=Q) cr eE rfl (by decide) ho (SubA.trans sQ (SubA.fresh g6 (SubA.refl _))) (.inr ⟨n6,0,rfl,by simp[Vm.AA,B7,Ba]⟩) (by simp[Ba,Value.oneCell']) (by simp only[maxLen];omega) (by omega) ?_
   intro v' Q' ho2 hb2
   have ho3:BU Ba 5 60 v' Q' (rs++[r2]):=by
    unfold BU
    rw[List.length_append,List.flatMap_append]
    simpa using ho2
   have sP3:SubA (PS pb cb lp lcap L k2 A3) ((n4,.cells #[.int .i64 0,.string ⟨#[]⟩,.string ⟨#[]⟩,.int .i64 0,.slice none 0 0] 60)::(n3,.cells #[.int .i64 r.op,.string r.nm,.string r.tx,.int .i64 r.n,.slice r.p r.len r.cap] 60)::(Q++PS pb cb lp lcap L k2 A3)):=dY3.symm.right
   have x24:Vm.AA (PS pb cb lp lcap L k2 A3) n4=none:=dY3 n4 (by simp[Vm.AA])
   have x23:Vm.AA (PS pb cb lp lcap L k2 A3) n3=none:=dY3 n3 (by simp[Vm.AA,d34])
   have dQ3:Dis Q ((n4,.cells #[.int .i64 0,.string ⟨#[]⟩,.string ⟨#[]⟩,.int .i64 0,.slice none 0 0] 60)::(n3,.cells #[.int .i64 r.op,.string r.nm,.string r.tx,.int .i64 r.n,.slice r.p r.len r.cap] 60)::PS pb cb lp lcap L k2 A3):=ZM Qn4 Qn3 (fun x hx=>(SubA.fresh (AJ d34.1 Qn4) (SubA.fresh Qn3 (SubA.refl Q)):SubA Q ((n4,.cells #[.int .i64 0,.string ⟨#[]⟩,.string ⟨#[]⟩,.int .i64 0,.slice none 0 0] 60)::(n3,.cells #[.int .i64 r.op,.string r.nm,.string r.tx,.int .i64 r.n,.slice r.p r.len r.cap] 60)::Q)).none (dY3.symm x hx))
   have sW:SubA ((n4,.cells #[.int .i64 0,.string ⟨#[]⟩,.string ⟨#[]⟩,.int .i64 0,.slice none 0 0] 60)::(n3,.cells #[.int .i64 r.op,.string r.nm,.string r.tx,.int .i64 r.n,.slice r.p r.len r.cap] 60)::PS pb cb lp lcap L k2 A3) ((n4,.cells #[.int .i64 0,.string ⟨#[]⟩,.string ⟨#[]⟩,.int .i64 0,.slice none 0 0] 60)::(n3,.cells #[.int .i64 r.op,.string r.nm,.string r.tx,.int .i64 r.n,.slice r.p r.len r.cap] 60)::(Q++PS pb cb lp lcap L k2 A3)):=SubA.both (X:=[(n4,.cells #[.int .i64 0,.string ⟨#[]⟩,.string ⟨#[]⟩,.int .i64 0,.slice none 0 0] 60),(n3,.cells #[.int .i64 r.op,.string r.nm,.string r.tx,.int .i64 r.n,.slice r.p r.len r.cap] 60)]) (SubA.left [(n4,.cells #[.int .i64 0,.string ⟨#[]⟩,.string ⟨#[]⟩,.int .i64 0,.slice none 0 0] 60),(n3,.cells #[.int .i64 r.op,.string r.nm,.string r.tx,.int .i64 r.n,.slice r.p r.len r.cap] 60)] _) sP3
   have dQ':Dis Q' ((n4,.cells #[.int .i64 0,.string ⟨#[]⟩,.string ⟨#[]⟩,.int .i64 0,.slice none 0 0] 60)::(n3,.cells #[.int .i64 r.op,.string r.nm,.string r.tx,.int .i64 r.n,.slice r.p r.len r.cap] 60)::PS pb cb lp lcap L k2 A3):=J5 hb2 dQ3 (SubA.trans sW (SubA.fresh g6 (SubA.refl _)))
   have hx3: ∀(m:Nat) (y:Xs) (s:Xr),(xs++[t2])[m]? =some y→(rs++[r2])[m]? =some s→ExR A3 y s:=by
    intro m y s hy hs'
    by_cases hm':m<xs.length
    ·rw[List.getElem?_append_left hm']at hy
     rw[List.getElem?_append_left (by omega)]at hs'
     exact(hxs m y s hy hs').mono hs2
    ·rw[List.getElem?_append_right (by omega)]at hy hs'
     rw[hlen]at hs'
     generalize m - xs.length=q at hy hs'
     match q with
     |0=>simp at hy hs';subst hy;subst hs';exact hr2
     |q+1=>simp at hy
   have hR3: ∀z,ua L (xs++[t2]) k2 z→YQ L i t z:=by
    rintro z (⟨c1,c2⟩|⟨c1,c2,rfl⟩|⟨c1,c2,rfl⟩)
    ·exact hR _ (.inl ⟨hmk',.chM hq2 c1 c2⟩)
    ·exact hR _ (.inl ⟨hmk',.chO hq2 c1 c2⟩)
    ·exact hR _ (.inl ⟨hmk',.chB hq2 c1 c2⟩)
   intro ν fr
   simp only[AF,↓AE,simprocAttr]
   refine AR.at (A:=(n4,.cells #[.int .i64 0,.string ⟨#[]⟩,.string ⟨#[]⟩,.int .i64 0,.slice none 0 0] 60)::(n3,.cells #[.int .i64 r.op,.string r.nm,.string r.tx,.int .i64 r.n,.slice r.p r.len r.cap] 60)::(Q'++PS pb cb lp lcap L k2 A3)) (SubA.both (X:=[(n4,.cells #[.int .i64 0,.string ⟨#[]⟩,.string ⟨#[]⟩,.int .i64 0,.slice none 0 0] 60),(n3,.cells #[.int .i64 r.op,.string r.nm,.string r.tx,.int .i64 r.n,.slice r.p r.len r.cap] 60)]) (SubA.trans (SubA.left [(n4,.cells #[.int .i64 0,.string ⟨#[]⟩,.string ⟨#[]⟩,.int .i64 0,.slice none 0 0] 60),(n3,.cells #[.int .i64 r.op,.string r.nm,.string r.tx,.int .i64 r.n,.slice r.p r.len r.cap] 60)] (PS pb cb lp lcap L k2 A3)) (SubA.past dQ' (SubA.trans sW (SubA.fresh g6 (SubA.refl _))))) (SubA.both (SubA.left _ _) (SubA.trans (dis2 x24 x23).symm.right (SubA.past dQ' (SubA.trans sW (SubA.fresh g6 (SubA.refl _))))))) ?_
   exact AR.weak (ih (L.length - k2) (by have:=hq2.le;omega) k2 A3 hk2 (SubA.trans hs hs2) hp3 x23 x24 v' Q' (xs++[t2]) (rs++[r2]) ho3 (by simp[hlen]) hx3 dQ' hR3 (by simp;have:=hq2.le;omega) (by have:=hq2.le;omega) rfl) (by simp[Ah,AO]) (SubA.refl _)
  |false=>
   refine AM.own (Y:=(n4,.cells #[.int .i64 0,.string ⟨#[]⟩,.string ⟨#[]⟩,.int .i64 0,.slice none 0 0] 60)::(n3,.cells #[.int .i64 r.op,.string r.nm,.string r.tx,.int .i64 r.n,.slice r.p r.len r.cap] 60)::Q) (AM.of (X:=fun _ _=>False) (Fi pb cb lp lcap L A2 hp2 k y hy _ hmk)) (dY _) (fun ch D h=>h.elim) ?_
   rintro v D ⟨rfl,hD⟩ dD
   refine⟨_,hD, ?_⟩
   have hmk':Aw (Af L k) 4 ⟨#[44]⟩=false:=by rw[hly];exact hmk
   clear hD dD D fr
   simp only[List.cons_append]
   intro ν fr
   simp only[AF,↓AE,simprocAttr]
   clear fr
   refine AM.own (Y:=(n4,.cells #[.int .i64 0,.string ⟨#[]⟩,.string ⟨#[]⟩,.int .i64 0,.slice none 0 0] 60)::(n3,.cells #[.int .i64 r.op,.string r.nm,.string r.tx,.int .i64 r.n,.slice r.p r.len r.cap] 60)::Q) (HK pb cb lp lcap L A2 hp2 k y hy _) (dY _) (fun ch D ⟨h6,z,h7,h8,h9⟩=>⟨2,k,z,by decide,hR _ (.inr (.inr ⟨hmk',by rw[hly];exact h6,rfl⟩)),h7,h8,SubA.trans (SubA.trans hs (SubA.trans (FW hp2) h9)) (SubA.left _ _)⟩) ?_
   rintro v D ⟨h6,hD⟩ dD
   refine⟨_,hD, ?_⟩
   obtain⟨q3,q4⟩:=Cj hp2.he hy (by rw[B0 h6];decide)
   rw[q3]
   clear hD dD D
   simp only[List.cons_append]
   intro ν fr
   simp only[AF,↓AE,simprocAttr]
   clear fr
   have hbd:rs.length≤100002:=by have:=hp2.hl;omega
   have sQ:SubA Q ((n4,.cells #[.int .i64 0,.string ⟨#[]⟩,.string ⟨#[]⟩,.int .i64 0,.slice none 0 0] 60)::(n3,.cells #[.int .i64 r.op,.string r.nm,.string r.tx,.int .i64 r.n,.slice r.p r.len r.cap] 60)::(Q++PS pb cb lp lcap L (k+1) A2)):=SubA.fresh (AJ d34.1 (AD Qn4 (AV g24))) (SubA.fresh (AD Qn3 (AV g23)) (SubA.left _ _))
   have sP:SubA (PS pb cb lp lcap L (k+1) A2) ((n4,.cells #[.int .i64 0,.string ⟨#[]⟩,.string ⟨#[]⟩,.int .i64 0,.slice none 0 0] 60)::(n3,.cells #[.int .i64 r.op,.string r.nm,.string r.tx,.int .i64 r.n,.slice r.p r.len r.cap] 60)::(Q++PS pb cb lp lcap L (k+1) A2)):=(dY (k+1)).symm.right
   refine AM.of (AK.newX (Da ((n4,.cells #[.int .i64 0,.string ⟨#[]⟩,.string ⟨#[]⟩,.int .i64 0,.slice none 0 0] 60)::(n3,.cells #[.int .i64 r.op,.string r.nm,.string r.tx,.int .i64 r.n,.slice r.p r.len r.cap] 60)::(Q++PS pb cb lp lcap L (k+1) A2)) 15 rs p cap (hS.mono sQ) (by omega)) (SubA.refl _) ?_)
   rintro v B ⟨p',c',rfl,hS'⟩ hdB
   have hp3:=hp2.app hdB sP
   have dBA:Dis B A2:=Dis.subr hdB (SubA.trans (FW hp2) sP)
   have n54:Vm.AA B n4=none:=hdB n4 (by simp[Vm.AA])
   refine⟨(n4,.cells #[.int .i64 0,.string ⟨#[]⟩,.string ⟨#[]⟩,.int .i64 0,.slice none 0 0] 60)::PS pb cb lp lcap L (k+1) (A2++B),SubA.both (X:=[(n4,.cells #[.int .i64 0,.string ⟨#[]⟩,.string ⟨#[]⟩,.int .i64 0,.slice none 0 0] 60)]) (SubA.trans (SubA.left [(n4,.cells #[.int .i64 0,.string ⟨#[]⟩,.string ⟨#[]⟩,.int .i64 0,.slice none 0 0] 60)] _) hdB.right) (nO hdB sP), ?_⟩
   simp only[PS,pB,Bt,Ba]
   intro ν fr
   simp only[AF,↓AE,simprocAttr]
   exact⟨.mk 15 eB eB 0 xs,k+1,⟨15,eB,eB,0,p',xs.length,c'⟩,A2++B,hR _ (.inr (.inl ⟨hmk',by rw[hly];exact h6,rfl⟩)),by rw[hlen],.mk (rs:=rs) (by have:=hp2.hl;omega) (by have:=hS'.1;omega) hlen (hS'.mono dBA.symm.right).2 (fun m y s hy hs=>(hxs m y s hy hs).mono (SubA.left _ _)),q4,SubA.trans hs (SubA.left _ _),hp3,SubA.fresh (AD (AV g24) n54) (SubA.refl _)⟩
set_option maxHeartbeats 4000000
set_option maxRecDepth 20000
structure LvAll(pb cb:Nat)(lp:Option Addr)(lcap:Nat)(L:List LR)(A:AH)(i:Nat):Prop where
 un:Kq 202 5 pb cb lp lcap L A i
 pr:Kq 199 4 pb cb lp lcap L A i
 su:Kq 191 3 pb cb lp lcap L A i
 cm:Kq 177 2 pb cb lp lcap L A i
 cj:Kq 147 1 pb cb lp lcap L A i
 ex:Kq 116 0 pb cb lp lcap L A i
theorem up{L:List LR}{i:Nat}{Q:Nat→AH→Prop}{O:AH→Prop}(h1: ∀A,O A→Q i A)(h2: ∀k A,i<k→k<L.length→O A→Q k A): ∀k A,i≤k→k<L.length→O A→Q k A:=fun k A hk hl ho=>by
 rcases Nat.lt_or_ge i k with h|h
 ·exact h2 k A h hl ho
 ·have:k=i:=by omega
  subst this
  exact h1 A ho
theorem mo(pb cb:Nat)(lp:Option Addr)(lcap:Nat)(L:List LR): ∀(m i:Nat) (A:AH),L.length - i=m→i<L.length→PsOk pb cb lp L A→LvAll pb cb lp lcap L A i:=by
 intro m
 induction m using Nat.strongRecOn with
 | ind m ih=>
  intro i A hm hi hp
  have all: ∀k A',i<k→k<L.length→PsOk pb cb lp L A'→LvAll pb cb lp lcap L A' k:=fun k A' h1 h2 h3=>ih (L.length - k) (by omega) k A' rfl h2 h3
  have un: ∀A',PsOk pb cb lp L A'→Kq 202 5 pb cb lp lcap L A' i:=fun A' h=>rm pb cb lp lcap L A' h i hi (fun k A2 h1 h2 h3=>(all k A2 h1 h2 h3).un) (fun k A2 h1 h2 h3=>(all k A2 h1 h2 h3).ex)
  have pr: ∀A',PsOk pb cb lp L A'→Kq 199 4 pb cb lp lcap L A' i:=fun A' h=>jU pb cb lp lcap L A' h i hi (up (Q:=fun k A=>Kq 202 5 pb cb lp lcap L A k) un fun k A2 h1 h2 h3=>(all k A2 h1 h2 h3).un)
  have su: ∀A',PsOk pb cb lp L A'→Kq 191 3 pb cb lp lcap L A' i:=fun A' h=>oH pb cb lp lcap L A' h i hi (up (Q:=fun k A=>Kq 199 4 pb cb lp lcap L A k) pr fun k A2 h1 h2 h3=>(all k A2 h1 h2 h3).pr)
  have cm: ∀A',PsOk pb cb lp L A'→Kq 177 2 pb cb lp lcap L A' i:=fun A' h=>fa pb cb lp lcap L A' h i hi (up (Q:=fun k A=>Kq 191 3 pb cb lp lcap L A k) su fun k A2 h1 h2 h3=>(all k A2 h1 h2 h3).su)
   fun k A2 t r h1 h2 h3 h4=>fW pb cb lp lcap L A2 h3 k h2 t r h4 fun k2 A3 h5 h6 h7=>(all k2 A3 (by omega) h6 h7).su
  have cj: ∀A',PsOk pb cb lp L A'→Kq 147 1 pb cb lp lcap L A' i:=fun A' h=>fd pb cb lp lcap L A' h i hi (up (Q:=fun k A=>Kq 177 2 pb cb lp lcap L A k) cm fun k A2 h1 h2 h3=>(all k A2 h1 h2 h3).cm)
  exact⟨un A hp,pr A hp,su A hp,cm A hp,cj A hp,gq pb cb lp lcap L A hp i hi (up (Q:=fun k A=>Kq 147 1 pb cb lp lcap L A k) cj fun k A2 h1 h2 h3=>(all k A2 h1 h2 h3).cj)⟩
theorem qE(pb cb:Nat)(lp:Option Addr)(lcap:Nat)(L:List LR)(A:AH)(hp:PsOk pb cb lp L A)(i:Nat)(hi:i<L.length):Kq 116 0 pb cb lp lcap L A i:=(mo pb cb lp lcap L _ i A rfl hi hp).ex
set_option maxHeartbeats 4000000
set_option maxRecDepth 20000
def zX:Obj:=.cells #[.int .i64 0,.string ⟨#[]⟩,.string ⟨#[]⟩,.int .i64 0,.slice none 0 0] 60
def xB(r:Xr):Obj:=.cells #[.int .i64 r.op,.string r.nm,.string r.tx,.int .i64 r.n,.slice r.p r.len r.cap] 60
theorem nM(pb cb:Nat)(lp:Option Addr)(lcap:Nat)(L:List LR)(A:AH)(hp:PsOk pb cb lp L A)(i:Nat)(hi:i<L.length)(xb:Nat)(hx:Vm.AA (PS pb cb lp lcap L i A) xb=none):AM Tryz.prog 115 #[.pointer (some ⟨pb,0,none⟩),.pointer (some ⟨xb,0,none⟩)] ((xb,zX)::PS pb cb lp lcap L i A) (K6 L A (Pr L (.lv 0) i)) (fun u_ A_=> ∃t j r A',Pr L (.lv 0) i (.ok t j)∧ExR A' t r∧j<L.length∧SubA A A'∧PsOk pb cb lp L A'∧Vm.AA (PS pb cb lp lcap L j A') xb=none∧SubA ((xb,xB r)::PS pb cb lp lcap L j A') A_):=by
 refine Ao ⟨Tryz.prog,115,Tryz.f115,5,[0,1],⟨[116],some (K6 L A (Pr L (.lv 0) i))⟩,[],_⟩ rfl (args:=[_,_]) Tryz.func115 rfl (by kernel_rfl) Tryz.ntmps115 (by simp) (by kernel_rfl) ?_
 intro ν fr
 simp only[AF,↓AE,simprocAttr]
 clear fr
 refine AM.own (Y:=[(xb,zX)]) (qE pb cb lp lcap L A hp i hi) (Dis.one hx).symm (fun ch D h=>h.at (SubA.left _ _)) ?_
 rintro v D ⟨t,j,r,A',hq,rfl,hr,hj,hs,hp',hD⟩ dD
 refine⟨_,hD, ?_⟩
 have g2:Vm.AA (PS pb cb lp lcap L j A') xb=none:=hD.none (dD xb (by simp[Vm.AA]))
 clear hD dD D
 simp only[List.cons_append,List.nil_append,Bt,Ba,zX]
 intro ν fr
 simp only[AF,↓AE,simprocAttr]
 exact⟨t,j,r,A',hq,hr,hj,hs,hp',g2,SubA.refl _⟩
set_option maxHeartbeats 4000000
set_option maxRecDepth 20000
theorem nV(b4 b5:Nat)(e at_ e0 a0:Int)(A:AH)(w:World)(hs:CQ ((b4,.cells #[.int .i64 e0] 36)::(b5,.cells #[.int .i64 a0] 3)::A) w.heap)(h45:(b4=b5)=False):CallsD Tryz.prog 144 #[.pointer (some ⟨b4,0,none⟩),.pointer (some ⟨b5,0,none⟩)] (.panicking (YK e at_)) w fun en u w'=>en=.returned (.tuple #[])∧u=.panicking [{v:=(.iface 201 (.agg #[.int .i64 e,.int .i64 at_])),recovered:=true}]∧CQ ((b4,.cells #[.int .i64 e] 36)::(b5,.cells #[.int .i64 at_] 3)::A) w'.heap∧BN ((b4,.cells #[.int .i64 e0] 36)::(b5,.cells #[.int .i64 a0] 3)::A) w.heap ((b4,.cells #[.int .i64 e] 36)::(b5,.cells #[.int .i64 at_] 3)::A) w'.heap∧Vm.Ai w w':=by
 refine callsD_of_wpS Tryz.func144 rfl fun c₀ cs hu=> ?_
 apply wpS_seq
 apply wpS_region
 simp[wpOpsS,go_sem,recoverD,hu,Tryz.ntmps144,Exit.thenS,YK]
 refine wpS_of_wp (wp_block (wp_seq ?_))
 refine wp_region ?_
 simp[wpOps,go_sem,Exit.then,Array.replicate]
 refine .inl ?_
 refine wp_cond (t:=false) (by simp[Act.eval]) ?_
 simp only[Bool.false_eq_true,if_false]
 refine wp_seq (wp_region ?_)
 simp[wpOps,go_sem,Exit.then,Instr.typeAssert]
 refine .inl (.inl (.inl ?_))
 refine wp_cond (t:=true) (by simp[Act.eval]) ?_
 simp only[if_true]
 refine wp_seq ?_
 refine BE (dd:=dd0) (n:=14) (imp:=⟨[],none⟩) (A:=((b4,.cells #[.int .i64 e0] 36)::(b5,.cells #[.int .i64 a0] 3)::A)) (ρ:=[(9,some (.agg #[.int .i64 e,.int .i64 at_])),(0,some (.pointer (some ⟨b4,0,none⟩))),(1,some (.pointer (some ⟨b5,0,none⟩)))]) (KK:=fun ρ' A'=> ∃b,ρ'=[(3,some (.pointer (some ⟨b,0,none⟩))),(9,some (.agg #[.int .i64 e,.int .i64 at_])),(0,some (.pointer (some ⟨b4,0,none⟩))),(1,some (.pointer (some ⟨b5,0,none⟩)))]∧A'=(b,.cells #[.int .i64 e,.int .i64 at_] 201)::((b4,.cells #[.int .i64 e0] 36)::(b5,.cells #[.int .i64 a0] 3)::A)∧Vm.AA ((b4,.cells #[.int .i64 e0] 36)::(b5,.cells #[.int .i64 a0] 3)::A) b=none) ?_ hs ?_ ?_ ?_
 ·refine⟨rfl,by simp,fun t v h=> ?_⟩
  simp only[Vm.get]at h
  split at h
  ·rename_i q;subst q;simpa using h
  ·split at h
   ·rename_i q;subst q;simpa using h
   ·split at h
    ·rename_i q;subst q;simpa using h
    ·cases h
 ·intro ν fr
  simp only[AF,↓AE,simprocAttr]
  exact⟨ν 0,rfl,rfl,fr.2 0⟩
 ·rintro ch a' w' ⟨X0,A',h1,_⟩ _ _
  cases h1
 rintro ρ' A' a' w' ⟨b,rfl,rfl,hb⟩ hk2 hs2 kp2 rr2
 have hb4:(b=b4)=False∧(b4=b)=False:=AU hb (show Vm.AA ((b4,.cells #[.int .i64 e0] 36)::(b5,.cells #[.int .i64 a0] 3)::A) b4=some (.cells #[.int .i64 e0] 36) by simp[Vm.AA])
 have hb5:(b=b5)=False∧(b5=b)=False:=AU hb (show Vm.AA ((b4,.cells #[.int .i64 e0] 36)::(b5,.cells #[.int .i64 a0] 3)::A) b5=some (.cells #[.int .i64 a0] 3) by simp[Vm.AA,h45])
 simp only[Exit.then]
 refine H8 (dd:=dd0) (imp:=⟨[],none⟩) (KK:=fun ρ' A'=>A'=(b,.cells #[.int .i64 e,.int .i64 at_] 201)::(b4,.cells #[.int .i64 e] 36)::(b5,.cells #[.int .i64 at_] 3)::A) [(0,0),(1,0),(2,0),(3,0),(4,1),(5,2)] [(b,.cells #[.int .i64 e,.int .i64 at_] 201)] (SubA.left [_] _) (by kernel_rfl) (by kernel_rfl) (by kernel_rfl) (by kernel_rfl) (by kernel_rfl) hk2 hs2 ?_ ?_ ?_ ?_
 ·intro ν fr
  simp only[AF,↓AE,simprocAttr,hb4,hb5,h45]
 ·rintro ch a' w' ⟨X0,A',h1,_⟩ _ _
  cases h1
 ·intro c a w dst v h
  cases dst<;>exact h
 rintro ρ' A' a3 w3 rfl hk3 hs3 kp3 rr3
 have hsub:SubA ((b4,.cells #[.int .i64 e] 36)::(b5,.cells #[.int .i64 at_] 3)::A) ((b,.cells #[.int .i64 e,.int .i64 at_] 201)::(b4,.cells #[.int .i64 e] 36)::(b5,.cells #[.int .i64 at_] 3)::A):=SubA.fresh (by simpa[Vm.AA,hb4,hb5]using hb) (SubA.refl _)
 exact⟨hk3.1,.panicking [{v:=(.iface 201 (.agg #[.int .i64 e,.int .i64 at_])),recovered:=true}],rfl,.tuple #[],by simp[results,Tryz.results144,go_sem],rfl,rfl,hs3.sub hsub,(kp2.trans kp3).sub hsub,rr2.trans rr3⟩
theorem jd(b4 b5:Nat)(w:World):CallsD Tryz.prog 144 #[.pointer (some ⟨b4,0,none⟩),.pointer (some ⟨b5,0,none⟩)] .returning w fun en u w'=>en=.returned (.tuple #[])∧u=.returning∧w'=w:=by
 refine callsD_of_wpS Tryz.func144 rfl fun c₀ cs hu=> ?_
 apply wpS_seq
 apply wpS_region
 simp[wpOpsS,go_sem,recoverD,hu,Tryz.ntmps144,Exit.thenS]
 refine wpS_of_wp (wp_block (wp_seq ?_))
 refine wp_region ?_
 simp[wpOps,go_sem,Exit.then,Array.replicate]
 refine .inl ?_
 refine wp_cond (t:=true) (by simp[Act.eval]) ?_
 simp only[if_true]
 refine wp_region ?_
 simp[wpOps,go_sem,Exit.inBlock,bodyPostS,results,Tryz.results144]
 cases c₀
 simp_all
end Go.Proofs.YtgmfcdeknaeikaaGreatDoor
namespace Go.Vm
theorem BO.weak[dd:DefD]{n:Nat}{ρ ρ':Ak}{a:Act}(hk:BO n ρ a)(h:Ah ρ' ρ):BO n ρ' a:=⟨hk.1,hk.2.1,fun t v ht=>hk.2.2 t v (Mc h _ (Od ρ' t v ht))⟩
theorem AK.toX{P:Program}{g:FuncId}{args:Array Value}{A A0:AH}{K0 K:Value→AH→Prop}(hc:AK P g args A0 K0)(hs:SubA A0 A)(Y:AH)(hY:SubA Y A)(hd:Dis A0 Y)
  (hk: ∀v D,K0 v D→Dis D Y→ ∃M,SubA M (D++Y)∧K v M):AK P g args A K:=by
 have h1:AK P g args A (fun v D'=> ∃D,D'=D++Y∧K0 v D∧Dis D Y):=
  AK.useX hc hs Y hY hd (fun v D h dD=>⟨D,SubA.refl _,D,rfl,h,dD⟩)
 exact AK.useX h1 (SubA.refl A) [] (SubA.nil _) (fun x hx=>absurd rfl hx)
  (fun v D' ⟨D,he,h,dD⟩ _=>by
   obtain⟨M,m1,m2⟩:=hk v D h dD
   exact⟨M,by rw[he];exact m1,by rw[List.append_nil];exact m2⟩)
theorem BO.lay{dd dd':DefD}{n:Nat}{ρ:Ak}{a a':Act}{t:Nat}{v:Value}(hk: @BO dd n ρ a)(h1:a'.defers=dd'.ds)(h2:a'.tmps=a.tmps.setIfInBounds t v)(ht:Vm.get ρ t=none): @BO dd' n ρ a':=by
 refine⟨h1,by rw[h2];simpa using hk.2.1,fun s u hs=> ?_⟩
 rw[h2,Array.getElem?_setIfInBounds_ne]
 ·exact hk.2.2 s u hs
 ·intro e
  rw[←e,ht]at hs
  cases hs
theorem Mj{P:Program}{im:List FuncId}{n id:Nat}{ops:List Oper}{ρ:Ak}{A:AH}{Q:Exit→Act→World→Prop}{a:Act}{w:World}{KK:Ak→AH→Prop}[dd:DefD](pl:List (Nat×Nat))(As:AH)(hAs:SubA As A)(hm:P.follows .mixedOrders=true)(hns:Region.noSelect ops.toArray=true)(hl:(pl.length==ops.length)=true)(hrs:Dr ops.toArray (H0 pl)=true)(hpl:G7 ⟨im,none⟩ ops.toArray (H0 pl) pl (Array.replicate ops.length false)=true)
  (hk:BO n ρ a) (hs:CQ A w.heap) (h: ∀ν,Bu ν A→Cf P ⟨im,none⟩ n ops pl As ν 0 ρ A (fun _ _ ρ' A'=>KK ρ' A'))
  (hK: ∀ρ' A' a' w',KK ρ' A'→BO n ρ' a'→CQ A' w'.heap→BN A w.heap A' w'.heap→Ai w w'→Q .normal a' w'):(Code.region id ops.toArray true).wp P Q a w:=by
 refine wp_mono (Q:=fun e a w=>e=.normal∧Q .normal a w) ?_ (fun e a w ⟨h1,h2⟩=>by rw[h1];exact h2)
 refine H8 pl As hAs hm hns hl hrs hpl hk hs h ?_ ?_ (fun ρ' A' a' w' h1 h2 h3 h4 h5=>⟨rfl,hK ρ' A' a' w' h1 h2 h3 h4 h5⟩)
 ·rintro ch a' w' ⟨X0,A',h1,_⟩ _ _
  cases h1
 ·rintro c a w dst v ⟨h1,_⟩
  cases h1
end Go.Vm
namespace Go.Proofs.YtgmfcdeknaeikaaGreatDoor
open Go.Vm
set_option maxHeartbeats 4000000
set_option maxRecDepth 20000
def uc(s:ByteArray)(b0:AH)(qe:Int→Nat→Prop)(qo:Nat→AH→Prop)(u:Value)(D:AH):Prop:=
 ((AG s).1≠0∧u=.tuple #[.int .i64 (AG s).1,.int .i64 ((AG s).2.1:Nat)]∧SubA b0 D)∨
 ((AG s).1=0∧((∃e j x,e≠0∧qe e j∧(AG s).2.2[j]? =some x∧u=.tuple #[.int .i64 e,.int .i64 (x.a:Int)])∨
  ∃j A' x,qo j A'∧(AG s).2.2[j]? =some x∧((x.k=0∧u=.tuple #[.int .i64 0,.int .i64 0]∧SubA A' D)∨(x.k≠0∧u=.tuple #[.int .i64 2,.int .i64 (x.a:Int)]))))
theorem S5{a:Act}{w w0:World}{ρ:Ak}{dd:DefD}{base A:AH}{b4 b5:Nat}{e at_:Int}{K:Value→AH→Prop}(hk: @BO dd 34 ρ a)(h4:Vm.get ρ 4=some (.pointer (some ⟨b4,0,none⟩)))(h5:Vm.get ρ 5=some (.pointer (some ⟨b5,0,none⟩)))
  (l4:Vm.AA A b4=some (.cells #[.int .i64 e] 36)) (l5:Vm.AA A b5=some (.cells #[.int .i64 at_] 3)) (hs:CQ A w.heap) (hkp:BN base w0.heap A w.heap) (hr:Vm.Ai w0 w) (hK:K (.tuple #[.int .i64 e,.int .i64 at_]) A):
  Leaves Tryz.prog Tryz.f114 a.tmps (fun en w'=>Gl base w0.heap K en w'.heap∧Vm.Ai w0 w') [] .returning w:=by
 have hv:F9 Tryz.prog ρ A Tryz.f114.results.toList=some [.int .i64 e,.int .i64 at_]:=by
  rw[Tryz.results114]
  obtain⟨ν,fr⟩: ∃ν,Bu ν A:=⟨fun i=>w.heap.size+i,⟨fun i j h=>by simpa using h,fun i=>hs.none_of_size (by simp)⟩⟩
  simp only[AF,simprocAttr,h4,h5,l4,l5]
 exact⟨_,EB hk (GA hs hv),⟨_,A,rfl,hs,hkp,hK⟩,hr⟩
theorem jc{a:Act}{w w0:World}{ρ:Ak}{base A:AH}{b4 b5:Nat}{e at_:Int}{K:Value→AH→Prop}(hk: @BO (⟨[{target:=.fn (.func 144) #[.pointer (some ⟨b4,0,none⟩),.pointer (some ⟨b5,0,none⟩)],args:= #[]}],.normal⟩:DefD) 34 ρ a)(h4:Vm.get ρ 4=some (.pointer (some ⟨b4,0,none⟩)))(h5:Vm.get ρ 5=some (.pointer (some ⟨b5,0,none⟩)))
  (l4:Vm.AA A b4=some (.cells #[.int .i64 e] 36)) (l5:Vm.AA A b5=some (.cells #[.int .i64 at_] 3)) (hs:CQ A w.heap) (hkp:BN base w0.heap A w.heap) (hr:Vm.Ai w0 w) (hK:K (.tuple #[.int .i64 e,.int .i64 at_]) A):
  Leaves Tryz.prog Tryz.f114 a.tmps (fun en w'=>Gl base w0.heap K en w'.heap∧Vm.Ai w0 w') a.defers .returning w:=by
 rw[hk.1]
 refine leaves_cons (by simp) (CF (by kernel_rfl)) ((jd b4 b5 w).mono ?_)
 rintro en u w' ⟨rfl,rfl,rfl⟩
 exact S5 hk h4 h5 l4 l5 hs hkp hr hK
theorem U1{a:Act}{w w0:World}{ρ:Ak}{base A:AH}{b4 b5:Nat}{e at_ e0 a0:Int}{K:Value→AH→Prop}(hk: @BO (⟨[{target:=.fn (.func 144) #[.pointer (some ⟨b4,0,none⟩),.pointer (some ⟨b5,0,none⟩)],args:= #[]}],.normal⟩:DefD) 34 ρ a)(h4:Vm.get ρ 4=some (.pointer (some ⟨b4,0,none⟩)))(h5:Vm.get ρ 5=some (.pointer (some ⟨b5,0,none⟩)))
  (h45:(b4=b5)=False) (hs:CQ ((b4,Obj.cells #[.int .i64 e0] 36)::(b5,Obj.cells #[.int .i64 a0] 3)::A) w.heap) (hkp:BN base w0.heap ((b4,Obj.cells #[.int .i64 e0] 36)::(b5,Obj.cells #[.int .i64 a0] 3)::A) w.heap) (hr:Vm.Ai w0 w) (hK:K (.tuple #[.int .i64 e,.int .i64 at_]) ((b4,.cells #[.int .i64 e] 36)::(b5,.cells #[.int .i64 at_] 3)::A)):
  Leaves Tryz.prog Tryz.f114 a.tmps (fun en w'=>Gl base w0.heap K en w'.heap∧Vm.Ai w0 w') a.defers (.panicking (YK e at_)) w:=by
 rw[hk.1]
 refine leaves_cons (by simp) (CF (by kernel_rfl)) ((nV b4 b5 e at_ e0 a0 A w hs h45).mono ?_)
 rintro en u w' ⟨rfl,rfl,h1,h2,h3⟩
 exact S5 hk h4 h5 (by simp[Vm.AA]) (by simp[Vm.AA,h45]) h1 (hkp.trans h2) (hr.trans h3) hK
theorem nW(b0:AH)(s:ByteArray)(hs:s.size≤100000)(g:FuncId)(cv:Value)(qe:Int→Nat→Prop)(qo:Nat→AH→Prop)(hcl:BR Tryz.prog g=true)
  (hg: ∀pb cb lp lcap B,(AG s).1=0→PsOk pb cb lp (AG s).2.2 B→Dis B b0→Vm.AA b0 pb=none→Vm.AA b0 cb=none→AM Tryz.prog g #[.pointer (some ⟨pb,0,none⟩),cv] (PS pb cb lp lcap (AG s).2.2 0 (B++b0))
   (fun ch D=> ∃e j x,e≠0∧qe e j∧(AG s).2.2[j]? =some x∧ch=YK e (x.a:Int)) (fun _ D=> ∃j A',qo j A'∧j<(AG s).2.2.length∧PsOk pb cb lp (AG s).2.2 A'∧SubA (PS pb cb lp lcap (AG s).2.2 j A') D)):
  AK Tryz.prog 114 #[.string s,.func (.func g) #[] #[cv]] b0 (uc s b0 qe qo):=by
 refine EK (args:=[.string s,.func (.func g) #[] #[cv]]) Tryz.func114 rfl (by kernel_rfl) (n:=34) Tryz.ntmps114 (by simp) fun a w hd hk hsat=> ?_
 refine wp_seq ?_
 refine BE (dd:=dd0) (imp:=⟨[],none⟩) (A:=b0) (KK:=fun ρ' A'=> ∃b4 b5,ρ'=[(5,some (.pointer (some ⟨b5,0,none⟩))),(4,some (.pointer (some ⟨b4,0,none⟩))),(0,some (.string s)),(1,some (.func (.func g) #[] #[cv]))]∧A'=(b5,Obj.cells #[.int .i64 0] 3)::(b4,Obj.cells #[.int .i64 0] 36)::b0∧Vm.AA b0 b4=none∧Vm.AA b0 b5=none∧b4≠b5) hk hsat ?_ ?_ ?_
 ·intro ν fr
  have nuE:=fr.nu
  simp only[AF,↓AE,simprocAttr]
  exact⟨ν 0,ν 1,rfl,rfl,fr.2 0,fr.2 1,by simp[nuE]⟩
 ·rintro ch a' w' ⟨X0,A',h1,_⟩ _ _
  cases h1
 rintro ρ' A' a1 w1 ⟨b4,b5,rfl,rfl,f4,f5,h45⟩ hk1 hs1 kp1 rr1
 have e45:(b4=b5)=False:=eq_false h45
 have e54:(b5=b4)=False:=eq_false fun h=>h45 h.symm
 simp only[Exit.then]
 refine wp_seq ?_
 refine BE (dd:=dd0) (imp:=⟨[143],none⟩) (A:=(b5,Obj.cells #[.int .i64 0] 3)::(b4,Obj.cells #[.int .i64 0] 36)::b0) (KK:=fun ρ' A'=> 
   ((AG s).1≠0∧Ah [(5,some (.pointer (some ⟨b5,0,none⟩))),(4,some (.pointer (some ⟨b4,0,none⟩)))] ρ'∧A'=(b5,.cells #[.int .i64 ((AG s).2.1:Nat)] 3)::(b4,.cells #[.int .i64 (AG s).1] 36)::b0)∨
   ((AG s).1=0∧ ∃cb lp lcap B,Ah [(5,some (.pointer (some ⟨b5,0,none⟩))),(4,some (.pointer (some ⟨b4,0,none⟩))),(6,some (.pointer (some ⟨cb,0,none⟩))),(1,some (.func (.func g) #[] #[cv]))] ρ'∧A'=(b5,Obj.cells #[.int .i64 0] 3)::(b4,Obj.cells #[.int .i64 0] 36)::(cb,Dj lp lcap (AG s).2.2 0)::(B++b0)∧B5 LR.cells 4 B lp (AG s).2.2∧Dis B b0∧Vm.AA (B++b0) cb=none∧Vm.AA ((cb,Dj lp lcap (AG s).2.2 0)::(B++b0)) b4=none∧Vm.AA ((cb,Dj lp lcap (AG s).2.2 0)::(B++b0)) b5=none)) hk1 hs1 ?_ ?_ ?_
 ·intro ν fr
  simp only[AF,↓AE,simprocAttr]
  refine AK.toX (al b0 s hs) (SubA.fresh (AJ e45 f5) (SubA.fresh f4 (SubA.refl _))) [(b5,Obj.cells #[.int .i64 0] 3),(b4,Obj.cells #[.int .i64 0] 36)] (SubA.left [_,_] _) (dis2 f5 f4) ?_
  rintro u D (⟨h0,rfl,hD⟩|⟨h0,cb,lp,lcap,LB,rfl,hL,sp0,hD⟩) dD
  ·refine⟨_,SubA.front dD hD, ?_⟩
   clear fr
   simp only[List.cons_append,List.nil_append]
   intro ν fr
   simp only[AF,↓AE,simprocAttr,e54]
   exact .inl ⟨h0,(by simp[Ah,AO])⟩
  ·refine⟨_,SubA.front dD hD, ?_⟩
   clear fr
   simp only[List.cons_append,List.nil_append,cat]
   intro ν fr
   have n4:=hD.none (dD b4 (by simp[Vm.AA,e54]))
   have n5:=hD.none (dD b5 (by simp[Vm.AA]))
   have nc:=Sep.hd sp0
   have dB:=Sep.dis sp0.2
   simp only[cat,Vm.AA,List.cons_append,List.nil_append]at n4 n5 nc dB
   simp only[AF,↓AE,simprocAttr,e54]
   refine .inr ⟨h0,cb,lp,lcap,LB,(by simp[Ah,AO]),rfl,hL,dB,nc,n4,n5⟩
 ·rintro ch a' w' ⟨X0,A',h1,_⟩ _ _
  cases h1
 rintro ρ' A' a2 w2 hKK hk2 hs2 kp2 rr2
 simp only[Exit.then]
 refine wp_seq ?_
 rcases hKK with⟨h0,hse,rfl⟩|⟨h0,cb,lp,lcap,B,hse,rfl,hL,dB,fcb,f4',f5'⟩
 ·refine wp_seq ?_
  have hk2:=hk2.weak hse
  refine BE (dd:=dd0) (imp:=⟨[],none⟩) (KK:=fun ρ' A'=>Ah [(15,some (.bool true)),(5,some (.pointer (some ⟨b5,0,none⟩))),(4,some (.pointer (some ⟨b4,0,none⟩)))] ρ'∧A'=(b5,.cells #[.int .i64 ((AG s).2.1:Nat)] 3)::(b4,.cells #[.int .i64 (AG s).1] 36)::b0) hk2 hs2 ?_ ?_ ?_
  ·intro ν fr
   have n0:((AG s).1 !=0)=true:=by simp[h0]
   simp only[AF,↓AE,simprocAttr,e54,n0]
   exact(by simp[Ah,AO])
  ·rintro ch a' w' ⟨X0,A',h1,_⟩ _ _
   cases h1
  rintro ρ' A' a3 w3 ⟨hse3,rfl⟩ hk3 hs3 kp3 rr3
  simp only[Exit.then]
  refine wp_cond (t:=true) (AN (hk3.weak hse3) rfl) ?_
  simp only[if_true]
  refine wp_seq ?_
  have hk3:=hk3.weak hse3
  refine Mj (dd:=dd0) (im:=[]) (KK:=fun ρ' A'=>Ah [(5,some (.pointer (some ⟨b5,0,none⟩))),(4,some (.pointer (some ⟨b4,0,none⟩)))] ρ'∧A'=(b5,.cells #[.int .i64 ((AG s).2.1:Nat)] 3)::(b4,.cells #[.int .i64 (AG s).1] 36)::b0) [(0,0),(1,0),(2,1),(3,2)] [(b5,.cells #[.int .i64 ((AG s).2.1:Nat)] 3),(b4,.cells #[.int .i64 (AG s).1] 36)] (SubA.left [_,_] _) (by kernel_rfl) (by kernel_rfl) (by kernel_rfl) (by kernel_rfl) (by kernel_rfl) hk3 hs3 ?_ ?_
  ·intro ν fr
   simp only[AF,↓AE,simprocAttr,e54]
   exact(by simp[Ah,AO])
  rintro ρ' A' a4 w4 ⟨hse4,rfl⟩ hk4 hs4 kp4 rr4
  refine wp_ret ?_
  have hk4:=hk4.weak hse4
  have hsub:SubA b0 ((b5,.cells #[.int .i64 ((AG s).2.1:Nat)] 3)::(b4,.cells #[.int .i64 (AG s).1] 36)::b0):=SubA.fresh (AJ e45 f5) (SubA.fresh f4 (SubA.refl _))
  have h9:=S5 (K:=uc s b0 qe qo) hk4 rfl rfl (by simp[Vm.AA,e54]) (by simp[Vm.AA]) hs4 ((((kp1.trans kp2).trans kp3).trans kp4)) (((rr1.trans rr2).trans rr3).trans rr4) (.inl ⟨h0,rfl,hsub⟩)
  have h8:a4.defers=[]:=hk4.1
  show Leaves _ _ _ _ _ _ _
  rw[h8]
  exact h9
 ·refine wp_seq ?_
  have hk2:=hk2.weak hse
  refine BE (dd:=dd0) (imp:=⟨[],none⟩) (KK:=fun ρ' A'=>Ah ((15,some (.bool false))::[(5,some (.pointer (some ⟨b5,0,none⟩))),(4,some (.pointer (some ⟨b4,0,none⟩))),(6,some (.pointer (some ⟨cb,0,none⟩))),(1,some (.func (.func g) #[] #[cv]))]) ρ'∧A'=(b5,Obj.cells #[.int .i64 0] 3)::(b4,Obj.cells #[.int .i64 0] 36)::(cb,Dj lp lcap (AG s).2.2 0)::(B++b0)) hk2 hs2 ?_ ?_ ?_
  ·intro ν fr
   simp only[AF,↓AE,simprocAttr,e54]
   exact(by simp[Ah,AO])
  ·rintro ch a' w' ⟨X0,A',h1,_⟩ _ _
   cases h1
  rintro ρ' A' a3 w3 ⟨hse3,rfl⟩ hk3 hs3 kp3 rr3
  simp only[Exit.then]
  refine wp_cond (t:=false) (AN (hk3.weak hse3) rfl) ?_
  simp only[Bool.false_eq_true,if_false]
  refine wp_skip ?_
  simp only[Exit.then]
  have hk3: @BO dd0 34 [(5,some (.pointer (some ⟨b5,0,none⟩))),(4,some (.pointer (some ⟨b4,0,none⟩))),(6,some (.pointer (some ⟨cb,0,none⟩))),(1,some (.func (.func g) #[] #[cv]))] a3:=hk3.weak hse3.2
  refine wp_seq ?_
  have t4:=hk3.2.2 4 _ rfl
  have t5:=hk3.2.2 5 _ rfl
  have t0:a3.defers=[]:=hk3.1
  have ts:a3.tmps.size=34:=hk3.2.1
  obtain⟨q4,g4⟩:=Array.getElem?_eq_some_iff.1 t4
  obtain⟨q5,g5⟩:=Array.getElem?_eq_some_iff.1 t5
  refine wp_region ?_
  simp[wpOps,go_sem,Exit.then,t0,ts,g4,g5]
  refine .inl (.inl ?_)
  refine wp_seq ?_
  refine BE (dd:=(⟨[{target:=.fn (.func 144) #[.pointer (some ⟨b4,0,none⟩),.pointer (some ⟨b5,0,none⟩)],args:= #[]}],.normal⟩:DefD)) (imp:=⟨[],none⟩) (A:=(b5,Obj.cells #[.int .i64 0] 3)::(b4,Obj.cells #[.int .i64 0] 36)::(cb,Dj lp lcap (AG s).2.2 0)::(B++b0)) (ρ:=[(5,some (.pointer (some ⟨b5,0,none⟩))),(4,some (.pointer (some ⟨b4,0,none⟩))),(6,some (.pointer (some ⟨cb,0,none⟩))),(1,some (.func (.func g) #[] #[cv]))]) (KK:=fun ρ' A'=> ∃pb,Ah ((7,some (.pointer (some ⟨pb,0,none⟩)))::[(5,some (.pointer (some ⟨b5,0,none⟩))),(4,some (.pointer (some ⟨b4,0,none⟩))),(6,some (.pointer (some ⟨cb,0,none⟩))),(1,some (.func (.func g) #[] #[cv]))]) ρ'∧A'=(pb,pB cb)::(b5,Obj.cells #[.int .i64 0] 3)::(b4,Obj.cells #[.int .i64 0] 36)::(cb,Dj lp lcap (AG s).2.2 0)::(B++b0)∧Vm.AA ((b5,Obj.cells #[.int .i64 0] 3)::(b4,Obj.cells #[.int .i64 0] 36)::(cb,Dj lp lcap (AG s).2.2 0)::(B++b0)) pb=none) (hk3.lay rfl rfl rfl) hs3 ?_ ?_ ?_
  ·intro ν fr
   have fr0:=fr.2 0
   simp only[AF,↓AE,simprocAttr]
   exact⟨ν 0,(by simp[Ah,AO]),rfl,fr0⟩
  ·rintro ch a' w' ⟨X0,A',h1,_⟩ _ _
   cases h1
  rintro ρ' A' a5 w5 ⟨pb,hse5,rfl,fpb⟩ hk5 hs5 kp5 rr5
  simp only[Exit.then]
  have hk5:=BO.weak (dd:=(⟨[{target:=.fn (.func 144) #[.pointer (some ⟨b4,0,none⟩),.pointer (some ⟨b5,0,none⟩)],args:= #[]}],.normal⟩:DefD)) hk5 hse5
  refine wp_seq ?_
  have hp:PsOk pb cb lp (AG s).2.2 (B++b0):=by
   obtain⟨K,hS,_,_,hlen⟩:=DY h0
   have fb:Vm.AA ((cb,Dj lp lcap (AG s).2.2 0)::(B++b0)) pb=none:=(SubA.fresh (AJ e45 f5') (SubA.fresh f4' (SubA.refl _))).none fpb
   have fb2:=AU fb (show Vm.AA ((cb,Dj lp lcap (AG s).2.2 0)::(B++b0)) cb=some (Dj lp lcap (AG s).2.2 0) by simp[Vm.AA])
   refine⟨fb2.1,fb2.2, ?_,fcb,hL.mono (SubA.left _ _),by omega,Q4 h0⟩
   simpa[Vm.AA,fb2.2]using fb
  have p4:=AU fpb (show Vm.AA ((b5,Obj.cells #[.int .i64 0] 3)::(b4,Obj.cells #[.int .i64 0] 36)::(cb,Dj lp lcap (AG s).2.2 0)::(B++b0)) b4=some (.cells #[.int .i64 0] 36) by simp[Vm.AA,e54])
  have p5:=AU fpb (show Vm.AA ((b5,Obj.cells #[.int .i64 0] 3)::(b4,Obj.cells #[.int .i64 0] 36)::(cb,Dj lp lcap (AG s).2.2 0)::(B++b0)) b5=some (.cells #[.int .i64 0] 3) by simp[Vm.AA])
  have o4:Vm.AA (PS pb cb lp lcap (AG s).2.2 0 (B++b0)) b4=none:=by
   simp only[PS,Vm.AA,p4.1,if_false]at f4'⊢
   exact f4'
  have o5:Vm.AA (PS pb cb lp lcap (AG s).2.2 0 (B++b0)) b5=none:=by
   simp only[PS,Vm.AA,p5.1,if_false]at f5'⊢
   exact f5'
  refine wp_region_lit ?_
  refine BT (dd:=(⟨[{target:=.fn (.func 144) #[.pointer (some ⟨b4,0,none⟩),.pointer (some ⟨b5,0,none⟩)],args:= #[]}],.normal⟩:DefD)) (imp:=⟨[],none⟩) (KK:=fun ρ' A'=>ρ'=((22,some (.func (.func g) #[] #[cv]))::(7,some (.pointer (some ⟨pb,0,none⟩)))::[(5,some (.pointer (some ⟨b5,0,none⟩))),(4,some (.pointer (some ⟨b4,0,none⟩))),(6,some (.pointer (some ⟨cb,0,none⟩))),(1,some (.func (.func g) #[] #[cv]))])∧A'=(pb,pB cb)::(b5,Obj.cells #[.int .i64 0] 3)::(b4,Obj.cells #[.int .i64 0] 36)::(cb,Dj lp lcap (AG s).2.2 0)::(B++b0)) rfl hk5 hs5 ?_ ?_ ?_
  ·intro ν fr
   simp only[AF,↓AE,simprocAttr]
  ·rintro ch w' ⟨X0,A',h1,_⟩ _
   cases h1
  rintro ρ' A' a6 w6 ⟨rfl,rfl⟩ hk6 hs6 kp6 rr6
  refine BT (dd:=(⟨[{target:=.fn (.func 144) #[.pointer (some ⟨b4,0,none⟩),.pointer (some ⟨b5,0,none⟩)],args:= #[]}],.normal⟩:DefD)) (imp:=⟨[],none⟩) (KK:=fun ρ' A'=>ρ'=((23,some (.pointer (some ⟨pb,0,none⟩)))::(22,some (.func (.func g) #[] #[cv]))::(7,some (.pointer (some ⟨pb,0,none⟩)))::[(5,some (.pointer (some ⟨b5,0,none⟩))),(4,some (.pointer (some ⟨b4,0,none⟩))),(6,some (.pointer (some ⟨cb,0,none⟩))),(1,some (.func (.func g) #[] #[cv]))])∧A'=(pb,pB cb)::(b5,Obj.cells #[.int .i64 0] 3)::(b4,Obj.cells #[.int .i64 0] 36)::(cb,Dj lp lcap (AG s).2.2 0)::(B++b0)) rfl hk6 hs6 ?_ ?_ ?_
  ·intro ν fr
   simp only[AF,↓AE,simprocAttr]
  ·rintro ch w' ⟨X0,A',h1,_⟩ _
   cases h1
  rintro ρ' A' a7 w7 ⟨rfl,rfl⟩ hk7 hs7 kp7 rr7
  have kpA:=(((((kp1.trans kp2).trans kp3).trans kp5).trans kp6).trans kp7)
  have rrA:=(((((rr1.trans rr2).trans rr3).trans rr5).trans rr6).trans rr7)
  have hcE:AM Tryz.prog g #[.pointer (some ⟨pb,0,none⟩),cv] ((pb,pB cb)::(b5,Obj.cells #[.int .i64 0] 3)::(b4,Obj.cells #[.int .i64 0] 36)::(cb,Dj lp lcap (AG s).2.2 0)::(B++b0))
    (fun ch D=> ∃e j x,e≠0∧qe e j∧(AG s).2.2[j]? =some x∧ch=YK e (x.a:Int)∧SubA [(b4,Obj.cells #[.int .i64 0] 36),(b5,Obj.cells #[.int .i64 0] 3)] D)
    (fun _ D=> ∃j A',qo j A'∧j<(AG s).2.2.length∧PsOk pb cb lp (AG s).2.2 A'∧Vm.AA (PS pb cb lp lcap (AG s).2.2 j A') b4=none∧Vm.AA (PS pb cb lp lcap (AG s).2.2 j A') b5=none∧SubA ((b5,Obj.cells #[.int .i64 0] 3)::(b4,Obj.cells #[.int .i64 0] 36)::PS pb cb lp lcap (AG s).2.2 j A') D):=by
   refine AM.to (hg pb cb lp lcap B h0 ⟨hp.ne,hp.en,(SubA.left B b0).none hp.np,(SubA.left B b0).none hp.nc,hL,hp.hl,hp.he⟩ dB (dB.right.none hp.np) (dB.right.none hp.nc)) ?_ [(b5,Obj.cells #[.int .i64 0] 3),(b4,Obj.cells #[.int .i64 0] 36)] ?_ (dis2 o5 o4) ?_ ?_
   ·refine SubA.trans (SubA.swap hp.en) (SubA.app (B:=[(pb,pB cb)]) (SubA.fresh (AJ e45 f5') (SubA.fresh f4' (SubA.refl _))))
   ·exact SubA.fresh fpb (SubA.left [_,_] _)
   ·rintro ch D ⟨e,j,x,h1,h2,h3,h4⟩ dD
    exact⟨D++[(b5,Obj.cells #[.int .i64 0] 3),(b4,Obj.cells #[.int .i64 0] 36)],SubA.refl _,e,j,x,h1,h2,h3,h4,SubA.trans (SubA.swap e45) dD.right⟩
   ·rintro v D ⟨j,A',h1,h2,h3,hD⟩ dD
    exact⟨_,SubA.front dD hD,j,A',h1,h2,h3,hD.none (dD b4 (by simp[Vm.AA,e54])),hD.none (dD b5 (by simp[Vm.AA])),SubA.refl _⟩
  refine GW (dd:=(⟨[{target:=.fn (.func 144) #[.pointer (some ⟨b4,0,none⟩),.pointer (some ⟨b5,0,none⟩)],args:= #[]}],.normal⟩:DefD)) (fs:= #[]) (cs:= #[cv]) (vs:=[.pointer (some ⟨pb,0,none⟩)]) (f:=.func (.func g) #[] #[cv]) hk7 hs7 rfl rfl hcl (by decide) hcE ?_ ?_
  ·rintro ch A' w' ⟨e,j,x,h1,h2,h3,rfl,hD⟩ hs8 kp8 rr8
   exact U1 (A:=[]) (e0:=0) (a0:=0) hk7 rfl rfl e45 (hs8.sub hD) ((kpA.trans kp8).sub hD) (rrA.trans rr8) (.inr ⟨h0,.inl ⟨e,j,x,h1,h2,h3,rfl⟩⟩)
  rintro v A' a8 w8 ⟨j,A2,hqo,hj,hp2,o42,o52,hD⟩ hk8 hs8 kp8 rr8
  have hs8:=hs8.sub hD
  have kp8:=kp8.sub hD
  obtain⟨x,hx,hlx⟩:=CA hj
  have kpB:=kpA.trans kp8
  have rrB:=rrA.trans rr8
  simp only[Exit.then]
  refine wp_seq ?_
  refine wp_seq ?_
  have hk8: @BO (⟨[{target:=.fn (.func 144) #[.pointer (some ⟨b4,0,none⟩),.pointer (some ⟨b5,0,none⟩)],args:= #[]}],.normal⟩:DefD) 34 ((7,some (.pointer (some ⟨pb,0,none⟩)))::[(5,some (.pointer (some ⟨b5,0,none⟩))),(4,some (.pointer (some ⟨b4,0,none⟩))),(6,some (.pointer (some ⟨cb,0,none⟩))),(1,some (.func (.func g) #[] #[cv]))]) a8:=BO.weak (dd:=(⟨[{target:=.fn (.func 144) #[.pointer (some ⟨b4,0,none⟩),.pointer (some ⟨b5,0,none⟩)],args:= #[]}],.normal⟩:DefD)) hk8 (by simp[Ah,AO])
  have q4:=AU o42 (show Vm.AA (PS pb cb lp lcap (AG s).2.2 j A2) pb=some (pB cb) by simp[PS,Vm.AA,hp2.en])
  have q5:=AU o52 (show Vm.AA (PS pb cb lp lcap (AG s).2.2 j A2) pb=some (pB cb) by simp[PS,Vm.AA,hp2.en])
  have r4:=AU o42 (show Vm.AA (PS pb cb lp lcap (AG s).2.2 j A2) cb=some (Dj lp lcap (AG s).2.2 j) by simp[PS,Vm.AA])
  have r5:=AU o52 (show Vm.AA (PS pb cb lp lcap (AG s).2.2 j A2) cb=some (Dj lp lcap (AG s).2.2 j) by simp[PS,Vm.AA])
  refine BE (dd:=(⟨[{target:=.fn (.func 144) #[.pointer (some ⟨b4,0,none⟩),.pointer (some ⟨b5,0,none⟩)],args:= #[]}],.normal⟩:DefD)) (imp:=⟨[],none⟩) (KK:=fun ρ' A'=>Ah [(31,some (.bool (x.k !=0))),(7,some (.pointer (some ⟨pb,0,none⟩))),(5,some (.pointer (some ⟨b5,0,none⟩))),(4,some (.pointer (some ⟨b4,0,none⟩)))] ρ'∧A'=(b5,Obj.cells #[.int .i64 0] 3)::(b4,Obj.cells #[.int .i64 0] 36)::PS pb cb lp lcap (AG s).2.2 j A2) hk8 hs8 ?_ ?_ ?_
  ·intro ν fr
   have pk:=Ov ((pb,pB cb)::A2) cb (AG s).2.2 lp lcap hp2.base.1 hp2.base.2 j x hx ((b5,Obj.cells #[.int .i64 0] 3)::(b4,Obj.cells #[.int .i64 0] 36)::PS pb cb lp lcap (AG s).2.2 j A2) (SubA.fresh (AJ e45 o52) (SubA.fresh o42 (SubA.refl _)))
   simp only[PS,pB,DV]at pk⊢
   simp only[AF,↓AE,simprocAttr,pk,hp2.en,q4,q5]
   exact(by simp[Ah,AO])
  ·rintro ch a' w' ⟨X0,A',h1,_⟩ _ _
   cases h1
  rintro ρ' A' a9 w9 ⟨hse9,rfl⟩ hk9 hs9 kp9 rr9
  simp only[Exit.then]
  have hk9:=BO.weak (dd:=(⟨[{target:=.fn (.func 144) #[.pointer (some ⟨b4,0,none⟩),.pointer (some ⟨b5,0,none⟩)],args:= #[]}],.normal⟩:DefD)) hk9 hse9
  have kpC:=kpB.trans kp9
  have rrC:=rrB.trans rr9
  by_cases hx0:x.k=0
  ·refine wp_cond (t:=false) (by rw[AN (dd:=(⟨[{target:=.fn (.func 144) #[.pointer (some ⟨b4,0,none⟩),.pointer (some ⟨b5,0,none⟩)],args:= #[]}],.normal⟩:DefD)) hk9 rfl,hx0];rfl) ?_
   simp only[Bool.false_eq_true,if_false]
   refine wp_skip ?_
   simp only[Exit.then]
   refine wp_seq ?_
   refine BE (dd:=(⟨[{target:=.fn (.func 144) #[.pointer (some ⟨b4,0,none⟩),.pointer (some ⟨b5,0,none⟩)],args:= #[]}],.normal⟩:DefD)) (imp:=⟨[],none⟩) (KK:=fun ρ' A'=>Ah [(5,some (.pointer (some ⟨b5,0,none⟩))),(4,some (.pointer (some ⟨b4,0,none⟩)))] ρ'∧A'=(b5,Obj.cells #[.int .i64 0] 3)::(b4,Obj.cells #[.int .i64 0] 36)::PS pb cb lp lcap (AG s).2.2 j A2) hk9 hs9 ?_ ?_ ?_
   ·intro ν fr
    simp only[PS,pB]
    simp only[AF,↓AE,simprocAttr,e54]
    exact(by simp[Ah,AO])
   ·rintro ch a' w' ⟨X0,A',h1,_⟩ _ _
    cases h1
   rintro ρ' A' a10 w10 ⟨hse10,rfl⟩ hk10 hs10 kp10 rr10
   simp only[Exit.then]
   have hk10:=BO.weak (dd:=(⟨[{target:=.fn (.func 144) #[.pointer (some ⟨b4,0,none⟩),.pointer (some ⟨b5,0,none⟩)],args:= #[]}],.normal⟩:DefD)) hk10 hse10
   refine wp_ret ?_
   have hsub:SubA A2 ((b5,Obj.cells #[.int .i64 0] 3)::(b4,Obj.cells #[.int .i64 0] 36)::PS pb cb lp lcap (AG s).2.2 j A2):=SubA.fresh (AJ e45 o52) (SubA.fresh o42 (show SubA A2 (PS pb cb lp lcap (AG s).2.2 j A2) from SubA.skip (by simp[hp2.nc]) (SubA.skip hp2.np (SubA.refl _))))
   exact jc hk10 rfl rfl (by simp[Vm.AA,e54]) (by simp[Vm.AA]) hs10 (kpC.trans kp10) (rrC.trans rr10) (.inr ⟨h0,.inr ⟨j,A2,x,hqo,hx,.inl ⟨hx0,rfl,hsub⟩⟩⟩)
  ·refine wp_cond (t:=true) (by rw[AN (dd:=(⟨[{target:=.fn (.func 144) #[.pointer (some ⟨b4,0,none⟩),.pointer (some ⟨b5,0,none⟩)],args:= #[]}],.normal⟩:DefD)) hk9 rfl];simp[hx0]) ?_
   simp only[if_true]
   refine wp_region_lit ?_
   refine BT (dd:=(⟨[{target:=.fn (.func 144) #[.pointer (some ⟨b4,0,none⟩),.pointer (some ⟨b5,0,none⟩)],args:= #[]}],.normal⟩:DefD)) (imp:=⟨[],none⟩) (KK:=fun ρ' A'=>ρ'=[(32,some (.pointer (some ⟨pb,0,none⟩))),(31,some (.bool (x.k !=0))),(7,some (.pointer (some ⟨pb,0,none⟩))),(5,some (.pointer (some ⟨b5,0,none⟩))),(4,some (.pointer (some ⟨b4,0,none⟩)))]∧A'=(b5,Obj.cells #[.int .i64 0] 3)::(b4,Obj.cells #[.int .i64 0] 36)::PS pb cb lp lcap (AG s).2.2 j A2) rfl hk9 hs9 ?_ ?_ ?_
   ·intro ν fr
    simp only[AF,↓AE,simprocAttr]
   ·rintro ch w' ⟨X0,A',h1,_⟩ _
    cases h1
   rintro ρ' A' a10 w10 ⟨rfl,rfl⟩ hk10 hs10 kp10 rr10
   have hcE:AM Tryz.prog 146 #[.pointer (some ⟨pb,0,none⟩),.int .i64 2] ((b5,Obj.cells #[.int .i64 0] 3)::(b4,Obj.cells #[.int .i64 0] 36)::PS pb cb lp lcap (AG s).2.2 j A2) (fun ch D=>ch=YK 2 (x.a:Int)∧SubA [(b4,Obj.cells #[.int .i64 0] 36),(b5,Obj.cells #[.int .i64 0] 3)] D) (fun _ _=>False):=by
    refine AM.to (LG pb cb lp lcap (AG s).2.2 A2 hp2 j x hx 2) (SubA.fresh (AJ e45 o52) (SubA.fresh o42 (SubA.refl _))) [(b5,Obj.cells #[.int .i64 0] 3),(b4,Obj.cells #[.int .i64 0] 36)] (SubA.left [_,_] _) (dis2 o52 o42) ?_ ?_
    ·rintro ch D ⟨h1,h2⟩ dD
     exact⟨D++[(b5,Obj.cells #[.int .i64 0] 3),(b4,Obj.cells #[.int .i64 0] 36)],SubA.refl _,h1,SubA.trans (SubA.swap e45) dD.right⟩
    ·rintro v D h _
     exact h.elim
   refine GW (dd:=(⟨[{target:=.fn (.func 144) #[.pointer (some ⟨b4,0,none⟩),.pointer (some ⟨b5,0,none⟩)],args:= #[]}],.normal⟩:DefD)) (g:=146) (fs:= #[]) (cs:= #[]) (vs:=[.pointer (some ⟨pb,0,none⟩),.int .i64 2]) (f:=.func (.func 146) #[] #[]) hk10 hs10 rfl rfl (by kernel_rfl) (by decide) hcE ?_ ?_
   ·rintro ch A' w' ⟨rfl,hD⟩ hs11 kp11 rr11
    exact U1 (A:=[]) (e0:=0) (a0:=0) hk10 rfl rfl e45 (hs11.sub hD) (((kpC.trans kp10).trans kp11).sub hD) ((rrC.trans rr10).trans rr11) (.inr ⟨h0,.inr ⟨j,A2,x,hqo,hx,.inr ⟨hx0,rfl⟩⟩⟩)
   ·rintro v A' a' w' h
    exact h.elim
end Go.Proofs.YtgmfcdeknaeikaaGreatDoor
