/-
The parser of fee tables, and Parse.
Conditions: none.
-/
import Derived.Test.YtfphceknmgadgaaGreatDoorQi
import Derived.Test.YtfphceknmgadgaaGreatDoorQh
import Derived.Test.YtfphceknmgadgaaGreatDoorVmDf
import Derived.Tactics
import Derived.Tactics2
import Derived.Deep.LoopGhost
set_option linter.unusedSimpArgs false
set_option linter.unusedVariables false
namespace Go.Proofs.YtfphceknmgadgaaGreatDoor
open Go.Vm
set_option maxHeartbeats 2000000
set_option maxRecDepth 20000
theorem CP:type_of% (An @BC (An @BU (An @BS (An @Aw (An @BB (An @BT (An @Bn (An @BN (An @CA (An @CS (An @B9 (An @CR (An @Cm (An @CT (An @CC (An @Bp (An @Bq (An @CQ (An @Be (An @Br (An @CB (An @Bo (An @Bx (An @AU (An @AQ (An @Am (An @Ap (An @Ag (An @BG (An @Aj (An @At (An @Au (An @Ax (An @A4 (An @A5 (An @A7 (An @BA @Ce))))))))))))))))))))))))))))))))))))):=⟨@BC,@BU,@BS,@Aw,@BB,@BT,@Bn,@BN,@CA,@CS,@B9,@CR,@Cm,@CT,@CC,@Bp,@Bq,@CQ,@Be,@Br,@CB,@Bo,@Bx,@AU,@AQ,@Am,@Ap,@Ag,@BG,@Aj,@At,@Au,@Ax,@A4,@A5,@A7,@BA,@Ce⟩
def fB(s pl:ByteArray)(lp:Option Addr)(n lcap i:Nat)(rv:Value):Obj:=.cells #[.string s,.string pl,.slice lp n lcap,.int .i64 (i:Int),rv] 49
def eW(e at_:Int):List PanicEntry:=[{v:=.iface 41 (.agg #[.int .i64 e,.int .i64 at_]),recovered:=false}]
def FsT(pb:Nat)(s pl:ByteArray)(lp:Option Addr)(lcap:Nat)(L:List LR)(rv:Value)(i:Nat)(A:AH):AH:=(pb,fB s pl lp L.length lcap i rv)::A
structure FsOk(pb:Nat)(s pl:ByteArray)(lp:Option Addr)(L:List LR)(A:AH):Prop where
 np:Vm.AA A pb=none
 hL:ES LR.cells 4 A lp L
 hl:L.length≤100000
 he:Po L
 sz:s.size=pl.size
 s4:s.size≤4000
 wf: ∀(i:Nat) (x:LR),L[i]? =some x→x.k=1→DS x.t=true
 po: ∀(i j:Nat) (x y:LR),i≤j→L[i]? =some x→L[j]? =some y→x.a≤y.a∧y.a≤s.size∧(y.k≠0→y.a+1≤s.size)
theorem OM:Tryz.prog.concrete 41=true:=by kernel_rfl
theorem FsOk.far{pb:Nat}{s pl:ByteArray}{lp:Option Addr}{lcap i:Nat}{L:List LR}{rv:Value}{A:AH}{n:Nat}(h:Vm.AA (FsT pb s pl lp lcap L rv i A) n=none):((n=pb)=False)∧((pb=n)=False):=
 BF h (show Vm.AA (FsT pb s pl lp lcap L rv i A) pb=some (fB s pl lp L.length lcap i rv) by simp[FsT,Vm.AA])
theorem FsOk.mono{pb:Nat}{s pl:ByteArray}{lp:Option Addr}{L:List LR}{A B:AH}(h:FsOk pb s pl lp L A)(hs:SubA A B)(hn:Vm.AA B pb=none):FsOk pb s pl lp L B:=⟨hn,h.hL.mono hs,h.hl,h.he,h.sz,h.s4,h.wf,h.po⟩
theorem U1(pb:Nat)(s pl:ByteArray)(lp:Option Addr)(lcap:Nat)(L:List LR)(rv:Value)(A:AH)(hp:FsOk pb s pl lp L A)(i:Nat)(x:LR)(hx:L[i]? =some x):AM Tryz.prog 19 #[.pointer (some ⟨pb,0,none⟩)] (FsT pb s pl lp lcap L rv i A) (fun u_ A_=>u_=Dl x∧SubA (FsT pb s pl lp lcap L rv i A) A_):=by
 refine AR ⟨Tryz.prog,19,Tryz.f19,13,[0,2],⟨[],none⟩,[(1,.p [(0,0),(1,0),(2,0),(3,0),(4,0),(5,0),(6,0),(7,0),(8,0),(9,0),(10,2)])],_⟩ rfl (args:=[_]) Tryz.func19 rfl (by kernel_rfl) Tryz.ntmps19 (by simp) (by kernel_rfl) ?_
 intro ν fr;have nuE:=fr.nu
 have f0:=fr.2 0
 have hn:=hp.np
 obtain⟨m3,m4⟩:=FsOk.far f0
 obtain⟨bk,off,cs,ty,fr0,hp0,hbk,hcr,hcc⟩:=hp.hL.at hx
 have hlt:=(List.getElem?_eq_some_iff.1 hx).1
 have lt:((L.length:Int)≤(i:Int))=False:=eq_false (by omega)
 have lt2:((i:Int)<(L.length:Int))=True:=eq_true (by omega)
 have li:((i:Int)<0)=False:=eq_false (by omega)
 obtain⟨n1,n2⟩:=BF hn hbk
 have hbk2:Vm.AA (FsT pb s pl lp lcap L rv i A) bk=some (.cells cs ty fr0):=by simp only[FsT,Vm.AA,n1,if_false];exact hbk
 obtain⟨m1,m2⟩:=BF f0 hbk2
 simp only[LR.cells]at hcr
 simp only[FsT,fB,Dl]
 simp (maxDischargeDepth:=16) only[AX,↓AW,simprocAttr,forall_const,nuE,fr.2,CP,lt,lt2,li,hp0,hbk,hcr,n1,n2,m1,m2,m3,m4]
 exact SubA.skip (AK m4 ((SubA.skip hn (SubA.refl A)).none f0)) (SubA.refl _)
theorem LK(pb:Nat)(s pl:ByteArray)(lp:Option Addr)(lcap:Nat)(L:List LR)(rv:Value)(A:AH)(hp:FsOk pb s pl lp L A)(i:Nat)(x:LR)(hx:L[i]? =some x)(B_:AH)(hB_:SubA (FsT pb s pl lp lcap L rv i A) B_):B5 Tryz.prog 19 #[.pointer (some ⟨pb,0,none⟩)] B_=some (Dl x):=Bk (Ct (by kernel_rfl) (U1 pb s pl lp lcap L rv A hp i x hx) hB_)
theorem Hk(pb:Nat)(s pl:ByteArray)(lp:Option Addr)(lcap:Nat)(L:List LR)(rv:Value)(A:AH)(hp:FsOk pb s pl lp L A)(i:Nat)(x:LR)(hx:L[i]? =some x):B5 Tryz.prog 19 #[.pointer (some ⟨pb,0,none⟩)] (FsT pb s pl lp lcap L rv i A)=some (Dl x):=Bk (Ct (by kernel_rfl) (U1 pb s pl lp lcap L rv A hp i x hx) (SubA.refl _))
theorem fi(pb:Nat)(s pl:ByteArray)(lp:Option Addr)(lcap:Nat)(L:List LR)(rv:Value)(A:AH)(hp:FsOk pb s pl lp L A)(i:Nat)(x:LR)(hx:L[i]? =some x)(e:Int):AZ Tryz.prog 53 #[.pointer (some ⟨pb,0,none⟩),.int .i64 e] (FsT pb s pl lp lcap L rv i A) (fun ch D=>ch=eW e (x.a:Int)∧SubA (FsT pb s pl lp lcap L rv i A) D) (fun u_ A_=>False):=by
 refine Bb ⟨Tryz.prog,53,Tryz.f53,10,[0,1],⟨[],some (fun ch D=>ch=eW e (x.a:Int)∧SubA (FsT pb s pl lp lcap L rv i A) D)⟩,[],_⟩ rfl (args:=[_,_]) Tryz.func53 rfl (by kernel_rfl) Tryz.ntmps53 (by simp) (by kernel_rfl) ?_
 intro ν fr;have nuE:=fr.nu
 have pk:=Hk pb s pl lp lcap L rv A hp i x hx
 simp only[FsT,fB,Dl,eW]at pk⊢
 simp (maxDischargeDepth:=16) only[AX,↓AW,simprocAttr,forall_const,nuE,fr.2,CP,pk,OM]
theorem kA(pb:Nat)(s pl:ByteArray)(lp:Option Addr)(lcap:Nat)(L:List LR)(rv:Value)(A:AH)(hp:FsOk pb s pl lp L A)(i:Nat)(x:LR)(hx:L[i]? =some x)(k:Int)(t:ByteArray):AM Tryz.prog 52 #[.pointer (some ⟨pb,0,none⟩),.int .i64 k,.string t] (FsT pb s pl lp lcap L rv i A) (fun u_ A_=>u_=.bool (BX x k t)∧SubA (FsT pb s pl lp lcap L rv i A) A_):=by
 refine AR ⟨Tryz.prog,52,Tryz.f52,20,[0,1,2,6,7],⟨[],none⟩,[],_⟩ rfl (args:=[_,_,_]) Tryz.func52 rfl (by kernel_rfl) Tryz.ntmps52 (by simp) (by kernel_rfl) ?_
 intro ν fr;have nuE:=fr.nu
 have f0:=fr.2 0
 have pk:=Hk pb s pl lp lcap L rv A hp i x hx
 obtain⟨m3,m4⟩:=FsOk.far f0
 simp only[FsT,fB,Dl]at pk f0⊢
 by_cases h1:x.k=k
 ·have e1:(x.k==k)=true:=by simp[h1]
  by_cases h2:x.t.toList=t.toList
  ·have hb:BX x k t=true:=by simp[BX,h1,h2]
   rw[hb]
   have e2:(x.t.toList==t.toList)=true:=by simp[h2]
   simp (maxDischargeDepth:=16) only[AX,↓AW,simprocAttr,forall_const,nuE,fr.2,CP,pk,e1,e2,eq_true h1,eq_true h2,m3,m4]
   exact SubA.skip f0 (SubA.refl _)
  ·have hb:BX x k t=false:=by simp[BX,h1,h2]
   rw[hb]
   have e2:(x.t.toList==t.toList)=false:=by simp[h2]
   simp (maxDischargeDepth:=16) only[AX,↓AW,simprocAttr,forall_const,nuE,fr.2,CP,pk,e1,e2,eq_true h1,eq_false h2,m3,m4]
   exact SubA.skip f0 (SubA.refl _)
 ·have hb:BX x k t=false:=by simp[BX,h1]
  rw[hb]
  have e1:(x.k==k)=false:=by simp[h1]
  simp (maxDischargeDepth:=16) only[AX,↓AW,simprocAttr,forall_const,nuE,fr.2,CP,pk,e1,eq_false h1,m3,m4]
  exact SubA.skip f0 (SubA.refl _)
theorem jb(pb:Nat)(s pl:ByteArray)(lp:Option Addr)(lcap:Nat)(L:List LR)(rv:Value)(A:AH)(hp:FsOk pb s pl lp L A)(i:Nat)(x:LR)(hx:L[i]? =some x)(k:Int)(t:ByteArray)(B_:AH)(hB_:SubA (FsT pb s pl lp lcap L rv i A) B_):B5 Tryz.prog 52 #[.pointer (some ⟨pb,0,none⟩),.int .i64 k,.string t] B_=some (.bool (BX x k t)):=Bk (Ct (by kernel_rfl) (kA pb s pl lp lcap L rv A hp i x hx k t) hB_)
theorem kh(pb:Nat)(s pl:ByteArray)(lp:Option Addr)(lcap:Nat)(L:List LR)(rv:Value)(A:AH)(hp:FsOk pb s pl lp L A)(i:Nat)(x:LR)(hx:L[i]? =some x)(k:Int)(t:ByteArray):B5 Tryz.prog 52 #[.pointer (some ⟨pb,0,none⟩),.int .i64 k,.string t] (FsT pb s pl lp lcap L rv i A)=some (.bool (BX x k t)):=Bk (Ct (by kernel_rfl) (kA pb s pl lp lcap L rv A hp i x hx k t) (SubA.refl _))
theorem pv{L:List LR}{i:Nat}{x:LR}(hx:L[i]? =some x)(hl:L.length≤100000):IntKind.i64.wrap ((i:Int)+1)=((i+1:Nat):Int):=by
 have hlt:=(List.getElem?_eq_some_iff.1 hx).1
 rw[Ak (by omega) (by omega)];omega
theorem Gx(pb:Nat)(s pl:ByteArray)(lp:Option Addr)(lcap:Nat)(L:List LR)(rv:Value)(A:AH)(hp:FsOk pb s pl lp L A)(i:Nat)(x:LR)(hx:L[i]? =some x)(k:Int)(t:ByteArray):AM Tryz.prog 58 #[.pointer (some ⟨pb,0,none⟩),.int .i64 k,.string t] (FsT pb s pl lp lcap L rv i A) (fun u_ A_=>u_=.bool (BX x k t)∧SubA (FsT pb s pl lp lcap L rv (if BX x k t=true then i+1 else i) A) A_):=by
 refine AR ⟨Tryz.prog,58,Tryz.f58,19,[0,1,2,6],⟨[],none⟩,[],_⟩ rfl (args:=[_,_,_]) Tryz.func58 rfl (by kernel_rfl) Tryz.ntmps58 (by simp) (by kernel_rfl) ?_
 intro ν fr;have nuE:=fr.nu
 have pk:=kh pb s pl lp lcap L rv A hp i x hx k t
 have we:=pv hx hp.hl
 simp only[FsT,fB]at pk⊢
 cases hb:BX x k t with
 |true=>
  rw[hb]at pk
  simp (maxDischargeDepth:=16) only[AX,↓AW,simprocAttr,forall_const,nuE,fr.2,CP,pk,we]
 |false=>
  rw[hb]at pk
  simp (maxDischargeDepth:=16) only[AX,↓AW,simprocAttr,forall_const,nuE,fr.2,CP,pk]
def YA(L:List LR)(e:Int)(j:Nat)(ch:List PanicEntry):Prop:= ∃x,L[j]? =some x∧ch=eW e (x.a:Int)
theorem nW(pb:Nat)(s pl:ByteArray)(lp:Option Addr)(lcap:Nat)(L:List LR)(rv:Value)(A:AH)(hp:FsOk pb s pl lp L A)(i:Nat)(x:LR)(hx:L[i]? =some x)(e:Int){Y:AH}(hY:SubA (FsT pb s pl lp lcap L rv i A) Y){X:List PanicEntry→AH→Prop}{K:Value→AH→Prop}(h: ∀ch D,YA L e i ch→X ch D):AZ Tryz.prog 53 #[.pointer (some ⟨pb,0,none⟩),.int .i64 e] Y X K:=
 AZ.useX (fi pb s pl lp lcap L rv A hp i x hx e) hY [] (SubA.nil _) (fun x hx=>absurd rfl hx) (fun ch D ⟨h1,h2⟩ _=>⟨_,h2,h _ _ ⟨x,hx,h1⟩⟩) (fun v D h _=>h.elim)
theorem Gz(pb:Nat)(s pl:ByteArray)(lp:Option Addr)(lcap:Nat)(L:List LR)(rv:Value)(A:AH)(hp:FsOk pb s pl lp L A)(i:Nat)(x:LR)(hx:L[i]? =some x)(k:Int)(t:ByteArray):AZ Tryz.prog 54 #[.pointer (some ⟨pb,0,none⟩),.int .i64 k,.string t] (FsT pb s pl lp lcap L rv i A) (fun ch D=>BX x k t=false∧YA L 2 i ch) (fun u_ A_=>BX x k t=true∧SubA (FsT pb s pl lp lcap L rv (i+1) A) A_):=by
 refine Bb ⟨Tryz.prog,54,Tryz.f54,13,[0,1,2],⟨[58,53],some (fun ch D=>BX x k t=false∧YA L 2 i ch)⟩,[],_⟩ rfl (args:=[_,_,_]) Tryz.func54 rfl (by kernel_rfl) Tryz.ntmps54 (by simp) (by kernel_rfl) ?_
 intro ν fr;have nuE:=fr.nu
 simp only[FsT,fB]
 simp (maxDischargeDepth:=16) only[AX,↓AW,simprocAttr,forall_const,nuE,fr.2,CP]
 refine AZ.of (AM.put (Gx pb s pl lp lcap L rv A hp i x hx k t) (SubA.refl _) ?_)
 clear nuE fr
 simp only[fB]
 intro ν fr;have nuE:=And.intro (fr.mem (b:=pb) (by simp)) (fr.nu)
 cases hb:BX x k t with
 |true=>simp (maxDischargeDepth:=16) only[AX,↓AW,simprocAttr,forall_const,nuE,fr.2,CP]
 |false=>
  simp (maxDischargeDepth:=16) only[AX,↓AW,simprocAttr,forall_const,nuE,fr.2,CP]
  exact nW pb s pl lp lcap L rv A hp i x hx 2 (SubA.refl _) fun ch D h=>h
theorem Gl(pb:Nat)(s pl:ByteArray)(lp:Option Addr)(lcap:Nat)(L:List LR)(rv:Value)(A:AH)(hp:FsOk pb s pl lp L A)(i:Nat)(x:LR)(hx:L[i]? =some x):AZ Tryz.prog 59 #[.pointer (some ⟨pb,0,none⟩)] (FsT pb s pl lp lcap L rv i A) (fun ch D=>x.k≠2∧YA L 2 i ch) (fun u_ A_=>x.k=2∧u_=.int .i64 x.n∧SubA (FsT pb s pl lp lcap L rv (i+1) A) A_):=by
 refine Bb ⟨Tryz.prog,59,Tryz.f59,20,[0,2,3],⟨[53],some (fun ch D=>x.k≠2∧YA L 2 i ch)⟩,[],_⟩ rfl (args:=[_]) Tryz.func59 rfl (by kernel_rfl) Tryz.ntmps59 (by simp) (by kernel_rfl) ?_
 intro ν fr;have nuE:=fr.nu
 have f0:=fr.2 0
 have pk:=Hk pb s pl lp lcap L rv A hp i x hx
 have we:=pv hx hp.hl
 obtain⟨m3,m4⟩:=FsOk.far f0
 have s0: ∀o,SubA (FsT pb s pl lp lcap L rv i A) ((ν 0,o)::FsT pb s pl lp lcap L rv i A):=fun o=>SubA.skip f0 (SubA.refl _)
 have hA0:Vm.AA A (ν 0)=none:=(SubA.skip hp.np (SubA.refl A)).none f0
 simp only[FsT,fB,Dl]at pk s0⊢
 by_cases h1:x.k=2
 ·simp (maxDischargeDepth:=16) only[AX,↓AW,simprocAttr,forall_const,nuE,fr.2,CP,pk,h1,m3,m4,we]
  exact SubA.skip (AK m4 hA0) (SubA.refl _)
 ·have e1:(x.k !=2)=true:=by simp[h1]
  simp (maxDischargeDepth:=16) only[AX,↓AW,simprocAttr,forall_const,nuE,fr.2,CP,pk,e1,eq_false h1,m3,m4]
  exact nW pb s pl lp lcap L rv A hp i x hx 2 (s0 _) fun ch D h=>h
structure Fuv where
 nm:ByteArray
 w:Xr
 bps:Int
 fx:Int
 mn:Int
 mx:Int
def Fo(u:Fuv):List Value:=[.string u.nm,.int .i64 u.w.op,.string u.w.nm,.string u.w.tx,.int .i64 u.w.n,.slice u.w.p u.w.len u.w.cap,.int .i64 u.bps,.int .i64 u.fx,.int .i64 u.mn,.int .i64 u.mx]
theorem P2(r:Fuv):(Fo r).length=10:=rfl
def FC(nm:ByteArray)(l:List Fuv):Bool:=l.any fun u=>decide (u.nm.toList=nm.toList)
theorem fG(pb:Nat)(s pl:ByteArray)(lp:Option Addr)(lcap:Nat)(L:List LR)(rp:Option Addr)(rcap:Nat)(rs:List Fuv)(A:AH)(hp:FsOk pb s pl lp L A)(i:Nat)(x:LR)(hx:L[i]? =some x)(hS:ES Fo 10 A rp rs)(hl:rs.length≤1000000):AZ Tryz.prog 55 #[.pointer (some ⟨pb,0,none⟩)] (FsT pb s pl lp lcap L (.slice rp rs.length rcap) i A) (fun ch D=>(F6 x=false∧YA L 2 i ch)∨(F6 x=true∧FC x.t rs=true∧YA L 7 i ch)) (fun u_ A_=>(F6 x=true∧FC x.t rs=false)∧u_=.string x.t∧SubA (FsT pb s pl lp lcap L (.slice rp rs.length rcap) (i+1) A) A_):=by
 refine Bb ⟨Tryz.prog,55,Tryz.f55,45,[0,2,3,5,22,23,24],⟨[53],some (fun ch D=>(F6 x=false∧YA L 2 i ch)∨(F6 x=true∧FC x.t rs=true∧YA L 7 i ch))⟩,[],_⟩ rfl (args:=[_]) Tryz.func55 rfl (by kernel_rfl) Tryz.ntmps55 (by simp) (by kernel_rfl) ?_
 intro ν fr;have nuE:=fr.nu
 have f0:=fr.2 0
 have pk:=Hk pb s pl lp lcap L (.slice rp rs.length rcap) A hp i x hx
 have we:=pv hx hp.hl
 obtain⟨m3,m4⟩:=FsOk.far f0
 have s0: ∀o,SubA (FsT pb s pl lp lcap L (.slice rp rs.length rcap) i A) ((ν 0,o)::FsT pb s pl lp lcap L (.slice rp rs.length rcap) i A):=fun o=>SubA.skip f0 (SubA.refl _)
 have hA0:Vm.AA A (ν 0)=none:=(SubA.skip hp.np (SubA.refl A)).none f0
 simp only[FsT,fB,Dl]at pk s0⊢
 by_cases h1:x.k=1
 rotate_left
 ·have hn:F6 x=false:=by simp[F6,h1]
  have e1:(x.k !=1)=true:=by simp[h1]
  simp (maxDischargeDepth:=16) only[AX,↓AW,simprocAttr,forall_const,nuE,fr.2,CP,pk,e1,eq_false h1,m3,m4]
  exact nW pb s pl lp lcap L _ A hp i x hx 2 (s0 _) fun ch D h=>.inl ⟨hn,h⟩
 have hnf:=hp.wf i x hx h1
 cases hr:Xl x.t with
 |true=>
  have hn:F6 x=false:=by simp[F6,hr]
  simp (maxDischargeDepth:=16) only[AX,↓AW,simprocAttr,forall_const,nuE,fr.2,CP,pk,hr,hnf,h1,m3,m4]
  exact nW pb s pl lp lcap L _ A hp i x hx 2 (s0 _) fun ch D h=>.inl ⟨hn,h⟩
 | false=>
  have hn:F6 x=true:=by simp[F6,h1,hr]
  simp (maxDischargeDepth:=16) only[AX,↓AW,simprocAttr,forall_const,nuE,fr.2,CP,pk,hr,hnf,h1,m3,m4]
  have dst_:True:=(by simp[nuE]);generalize ν 0=n1 at dst_  f0 m3 m4 hA0 s0⊢
  clear nuE fr
  obtain⟨k,hk0,hkl,hno⟩: ∃k:Nat,k=0∧k≤rs.length∧FC x.t (rs.take k)=false:=⟨0,rfl,by omega,rfl⟩
  rw[show(24,some (Value.int .i64 0))=(24,some (Value.int .i64 (k:Int))) by rw[hk0];rfl]
  clear hk0
  generalize hkm:rs.length - k=km
  induction km generalizing k with
  |zero=>
   have lt:((k:Int)<(rs.length:Int))=False:=eq_false (by omega)
   have hno':FC x.t rs=false:=by rw[←hno,List.take_of_length_le (by omega)]
   refine Ah.intro (by kernel_rfl) ?_
   intro ν fr;have nuE:=And.intro (fr.mem (b:=n1) (by simp)) (And.intro (fr.mem (b:=pb) (by simp)) (fr.nu))
   simp (maxDischargeDepth:=16) only[AX,↓AW,simprocAttr,forall_const,nuE,fr.2,CP,lt,m3,m4,we]
   exact⟨⟨hn,hno'⟩,SubA.skip (AK m4 hA0) (SubA.refl _)⟩
  | succ km ihk=>
   obtain⟨r,hr1⟩: ∃r,rs[k]? =some r:=⟨_,List.getElem?_eq_getElem (by omega)⟩
   obtain⟨bq,offq,csq,tyq,frq,hq0,hbq,hcq,hcqc⟩:=hS.at hr1
   have lt:((k:Int)<(rs.length:Int))=True:=eq_true (by omega)
   have li:((k:Int)<0)=False:=eq_false (by omega)
   have wk:IntKind.i64.wrap ((k:Int)+1)=((k+1:Nat):Int):=by rw[Ak (by omega) (by omega)];omega
   obtain⟨u1,u2⟩:=BF hp.np hbq
   obtain⟨u3,u4⟩:=BF hA0 hbq
   simp only[Fo]at hcq
   subst hq0
   refine Ah.intro (by kernel_rfl) ?_
   intro ν fr;have nuE:=And.intro (fr.mem (b:=n1) (by simp)) (And.intro (fr.mem (b:=pb) (by simp)) (fr.nu))
   have g0:=fr.2 0
   have htk:rs.take (k+1)=rs.take k++[r]:=by rw[List.take_add_one,hr1];rfl
   by_cases hs:r.nm.toList=x.t.toList
   ·have hh:FC x.t rs=true:=by unfold FC;rw[List.any_eq_true];exact⟨r,List.mem_of_getElem? hr1,by simp[hs]⟩
    simp (maxDischargeDepth:=16) only[AX,↓AW,simprocAttr,forall_const,nuE,fr.2,CP,lt,li,wk,hbq,hcq,u1,u2,u3,u4,m3,m4,eq_true hs]
    exact nW pb s pl lp lcap L _ A hp i x hx 7 (SubA.trans (s0 _) (SubA.skip g0 (SubA.refl _))) fun ch D h=>.inr ⟨hn,hh,h⟩
   ·simp (maxDischargeDepth:=16) only[AX,↓AW,simprocAttr,forall_const,nuE,fr.2,CP,lt,li,wk,hbq,hcq,u1,u2,u3,u4,m3,m4,eq_false hs]
    exact Ah.weak (ihk (k+1) (by omega) (by rw[htk];simp[FC]at hno ⊢;exact⟨hno,hs⟩) (by omega)) (by simp only[BW,Ab,Nat.reduceEqDiff,↓reduceIte,reduceCtorEq,Nat.reduceAdd,and_self,and_true]) (SubA.skip g0 (SubA.refl _))
end Go.Proofs.YtfphceknmgadgaaGreatDoor
namespace Go.Vm
theorem AZ.par{P:Program}{g:FuncId}{args:Array Value}{E Y X:AH}{X0 Z:List PanicEntry→AH→Prop}{K0 K:Value→AH→Prop}(hc:AZ P g args E X0 K0)(hd:Dis E Y)(hX:Dis E X)(hYX:Dis Y X)
  (hx: ∀ch D,X0 ch D→Z ch D) (hk: ∀v D,K0 v D→Dis D (Y++X)→ ∃F,SubA F D∧K v (Y++(F++X))):AZ P g args (Y++(E++X)) Z K:=by
 refine AZ.to hc (SubA.trans (SubA.left E X) (Dis.appr hd.symm hYX).right) (Y++X) (SubA.app hX.right) (Dis.appr hd hX) (fun ch D h dD=>⟨D,SubA.left _ _,hx ch D h⟩) fun v D h dD=> ?_
 obtain⟨F,h1,h2⟩:=hk v D h dD
 exact⟨_,SubA.both (SubA.trans (SubA.left Y X) dD.right) (SubA.both (SubA.trans h1 (SubA.left _ _)) (SubA.trans hYX.right dD.right)),h2⟩
end Go.Vm
namespace Go.Proofs.YtfphceknmgadgaaGreatDoor
open Go.Vm
set_option maxHeartbeats 4000000
set_option maxRecDepth 20000
theorem C3{pb:Nat}{s pl:ByteArray}{lp:Option Addr}{lcap i j:Nat}{L:List LR}{rv rv':Value}{A:AH}{n:Nat}(h:Vm.AA (FsT pb s pl lp lcap L rv i A) n=none):Vm.AA (FsT pb s pl lp lcap L rv' j A) n=none:=by
 simp only[FsT,Vm.AA]at h⊢
 split at h
 ·cases h
 ·rename_i e;rw[if_neg e];exact h
theorem Ft{pb:Nat}{s pl:ByteArray}{lp:Option Addr}{lcap i:Nat}{L:List LR}{rv:Value}{A:AH}(h:Vm.AA A pb=none):SubA A (FsT pb s pl lp lcap L rv i A):=SubA.skip h (SubA.refl _)
def rU(s:ByteArray)(L:List LR)(i:Nat)(ch:List PanicEntry):Prop:=(((BR L i).k≠2)∧YA L 2 i ch)∨((BR L i).k=2∧BX (BR L (i+1)) 4 ⟨#[37]⟩=false∧YA L 2 (i+1) ch)∨((BR L i).k=2∧BX (BR L (i+1)) 4 ⟨#[37]⟩=true∧X6 (s.extract (DF L i) (DF L (i+1)+1)).toList=none∧YA L 2 i ch)
theorem Tu(pb:Nat)(s pl:ByteArray)(lp:Option Addr)(lcap:Nat)(L:List LR)(rv:Value)(A:AH)(hp:FsOk pb s pl lp L A)(i:Nat)(x:LR)(hx:L[i]? =some x):AZ Tryz.prog 57 #[.pointer (some ⟨pb,0,none⟩)] (FsT pb s pl lp lcap L rv i A) (fun ch D=>rU s L i ch) (fun u_ A_=> ∃b,((BR L i).k=2∧BX (BR L (i+1)) 4 ⟨#[37]⟩=true∧X6 (s.extract (DF L i) (DF L (i+1)+1)).toList=some b)∧u_=.int .i64 b∧SubA (FsT pb s pl lp lcap L rv (i+2) A) A_):=by
 refine Bb ⟨Tryz.prog,57,Tryz.f57,44,[0,2,3,4,5],⟨[59,53],some (fun ch D=>rU s L i ch)⟩,[(5,.q false)],_⟩ rfl (args:=[_]) Tryz.func57 rfl (by kernel_rfl) Tryz.ntmps57 (by simp) (by kernel_rfl) ?_
 intro ν fr;have nuE:=fr.nu
 have f0:=fr.2 0
 have pk:=Hk pb s pl lp lcap L rv A hp i x hx
 obtain⟨m3,m4⟩:=FsOk.far f0
 have elx:=Ez hx
 have hA0:Vm.AA A (ν 0)=none:=(SubA.skip hp.np (SubA.refl A)).none f0
 simp only[FsT,fB,Dl]at pk⊢
 simp (maxDischargeDepth:=16) only[AX,↓AW,simprocAttr,forall_const,nuE,fr.2,CP,pk,m3,m4]
 have dst_:True:=(by simp[nuE]);generalize ν 0=n1 at dst_  f0 m3 m4 hA0⊢
 clear nuE fr
 refine AZ.own (Y:=[(n1,_)]) (Gl pb s pl lp lcap L rv A hp i x hx) (Dis.one f0).symm (fun ch D ⟨h1,h2⟩=>.inl ⟨by rw[elx];exact h1,h2⟩) ?_
 rintro v D ⟨h1,rfl,hD⟩ dD
 refine⟨_,hD, ?_⟩
 clear hD dD D
 have hlt:i+1<L.length:=hp.he i x hx (by rw[h1];decide)
 obtain⟨y,hy,ely⟩:=Bw hlt
 have f1:=C3 (j:=i+1) (rv':=rv) f0
 have is1:=fun o=>jb pb s pl lp lcap L rv A hp (i+1) y hy 4 ⟨#[37]⟩ ((n1,o)::FsT pb s pl lp lcap L rv (i+1) A) (SubA.fresh f1 (SubA.refl _))
 have pk2:=fun o=>LK pb s pl lp lcap L rv A hp (i+1) y hy ((n1,o)::FsT pb s pl lp lcap L rv (i+1) A) (SubA.fresh f1 (SubA.refl _))
 have we:=pv hy hp.hl
 have s1: ∀o,SubA (FsT pb s pl lp lcap L rv (i+1) A) ((n1,o)::FsT pb s pl lp lcap L rv (i+1) A):=fun o=>SubA.fresh f1 (SubA.refl _)
 have hkx:(BR L i).k=2:=by rw[elx];exact h1
 cases hc:BX y 4 ⟨#[37]⟩with
 |false=>
  rw[hc]at is1
  simp only[FsT,fB,Dl,List.cons_append,List.nil_append]at is1 s1⊢
  intro ν fr;have nuE:=And.intro (fr.mem (b:=n1) (by simp)) (And.intro (fr.mem (b:=pb) (by simp)) (fr.nu))
  simp (maxDischargeDepth:=16) only[AX,↓AW,simprocAttr,forall_const,nuE,fr.2,CP,is1]
  exact nW pb s pl lp lcap L rv A hp (i+1) y hy 2 (s1 _) fun ch D h=>.inr (.inl ⟨hkx,by rw[ely];exact hc,h⟩)
 | true=>
  rw[hc]at is1
  obtain⟨p1,p2,p3⟩:=hp.po i (i+1) x y (by omega) hx hy
  have p3:=p3 (by rw[Bu hc];decide)
  have h4:=hp.s4
  have wy:IntKind.i64.wrap ((y.a:Int)+1)=((y.a+1:Nat):Int):=by rw[Ak (by omega) (by omega)];omega
  have c1:((0:Int)≤(x.a:Int))=True:=eq_true (by omega)
  have c2:((x.a:Int)≤((y.a+1:Nat):Int))=True:=eq_true (by omega)
  have c3:(((y.a+1:Nat):Int)≤(s.size:Int))=True:=eq_true (by omega)
  have hxs:(s.extract x.a (y.a+1)).size≤100000:=by rw[ByteArray.size_extract];omega
  have pp:=Ce (s.extract x.a (y.a+1)) hxs
  have eat:(s.extract (DF L i) (DF L (i+1)+1)).toList=(s.extract x.a (y.a+1)).toList:=by unfold DF;rw[elx,ely]
  have hky:BX (BR L (i+1)) 4 ⟨#[37]⟩=true:=by rw[ely];exact hc
  by_cases he:(Ff (s.extract x.a (y.a+1)).toList).2=0
  ·have he':((Ff (s.extract x.a (y.a+1)).toList).2 !=0)=false:=by simp[he]
   have hb:X6 (s.extract (DF L i) (DF L (i+1)+1)).toList=some (Ff (s.extract x.a (y.a+1)).toList).1:=by rw[eat];unfold X6;rw[if_pos he]
   simp only[FsT,fB,Dl,List.cons_append,List.nil_append]at is1 pk2 s1⊢
   intro ν fr;have nuE:=And.intro (fr.mem (b:=n1) (by simp)) (And.intro (fr.mem (b:=pb) (by simp)) (fr.nu))
   simp (maxDischargeDepth:=16) only[AX,↓AW,simprocAttr,forall_const,nuE,fr.2,CP,is1,pk2,m3,m4,wy,c1,c2,c3,pp,he,he',we]
   exact⟨_,⟨hkx,hky,hb⟩,rfl,SubA.fresh (C3 (j:=i+2) (rv':=rv) f1) (SubA.refl _)⟩
  ·have he':((Ff (s.extract x.a (y.a+1)).toList).2 !=0)=true:=by simp[he]
   have hb:X6 (s.extract (DF L i) (DF L (i+1)+1)).toList=none:=by rw[eat];unfold X6;rw[if_neg he]
   simp only[FsT,fB,Dl,List.cons_append,List.nil_append]at is1 pk2 s1⊢
   intro ν fr;have nuE:=And.intro (fr.mem (b:=n1) (by simp)) (And.intro (fr.mem (b:=pb) (by simp)) (fr.nu))
   simp (maxDischargeDepth:=16) only[AX,↓AW,simprocAttr,forall_const,nuE,fr.2,CP,is1,pk2,m3,m4,wy,c1,c2,c3,pp,eq_false he,he',we,OM]
   exact .inr (.inr ⟨hkx,hky,hb,x,hx,rfl⟩)
end Go.Proofs.YtfphceknmgadgaaGreatDoor
namespace Go.Proofs.YtfphceknmgadgaaGreatDoor
open Go.Vm
set_option maxHeartbeats 4000000
set_option maxRecDepth 20000
theorem ck{A:AH}{b x:Nat}{o o':Obj}(h:Vm.AA ((b,o)::A) x=none):Vm.AA ((b,o')::A) x=none:=by
 simp only[Vm.AA]at h⊢
 split at h
 ·cases h
 ·rename_i e;rw[if_neg e];exact h
theorem Yo(s:ByteArray): ∀f i,i≤s.size→(CW s f i).2.1≤s.size:=by
 intro f
 induction f with
 |zero=>intro i _;simp[CW]
 | succ f ih=>
  intro i hi
  by_cases h1:s.size≤i
  ·rw[Jr f h1];exact Nat.zero_le _
  by_cases he:(B0 s i).e=0
  rotate_left
  ·rw[Jp f h1 he];exact hi
  ·obtain⟨g1,g2⟩:=Ei s i (by omega) he
   rw[Me f h1 he rfl]
   exact ih _ (FN s _ g2)
theorem eH(s:ByteArray):(AV s).2.1≤s.size:=by
 unfold AV
 split
 ·exact Nat.zero_le _
 ·have:=P9 false s.toList
  rw[BK]at this
  exact Yo s _ _ this
theorem Qp{s:ByteArray}(h0:(AV s).1=0){j:Nat}{x:LR}(hx:(AV s).2.2[j]? =some x):x.a≤s.size:=by
 obtain⟨K,hK,hp⟩:=nO h0
 rw[hK]at hx
 rcases List.mem_append.1 (List.mem_of_getElem? hx)with h|h
 ·have:=(hp x h).2;omega
 ·simp only[List.mem_singleton]at h;rw[h];exact Nat.le_refl _
theorem Tm{s:ByteArray}{e:Int}{a:Nat}{t:Xs}(h:PxO s e a t):a≤s.size:=by
 cases h with
 |scan _=>exact eH s
 |er h0 _ _ hx=>exact Qp h0 hx
 |more h0 _ hx _=>exact Qp h0 hx
 |ok=>exact Nat.zero_le _
theorem PxO.zero{s:ByteArray}{a:Nat}{t:Xs}(h:PxO s 0 a t):a=0:=by
 generalize he:(0:Int)=e at h
 cases h with
 |scan h0=>exact absurd he.symm h0
 |er _ h0=>exact absurd he.symm h0
 |more=>cases he
 |ok=>rfl
theorem fR(pb:Nat)(s pl:ByteArray)(lp:Option Addr)(lcap:Nat)(L:List LR)(rv:Value)(A:AH)(hp:FsOk pb s pl lp L A)(i:Nat)(hi:i<L.length):AZ Tryz.prog 56 #[.pointer (some ⟨pb,0,none⟩)] (FsT pb s pl lp lcap L rv i A) (fun ch D=> ∃e a t,PxO (pl.extract (DF L i) (DF L (exJ L i))) e a t∧e≠0∧ch=eW e ((DF L i+a:Nat):Int)) (fun u_ A_=> ∃t r A',PxO (pl.extract (DF L i) (DF L (exJ L i))) 0 0 t∧u_=C5 r∧ExR A' t r∧SubA A A'∧Vm.AA A' pb=none∧exJ L i<L.length∧SubA (FsT pb s pl lp lcap L rv (exJ L i) A') A_):=by
 refine Bb ⟨Tryz.prog,56,Tryz.f56,49,[0,2,3,4,5,6],⟨[84],some (fun ch D=> ∃e a t,PxO (pl.extract (DF L i) (DF L (exJ L i))) e a t∧e≠0∧ch=eW e ((DF L i+a:Nat):Int))⟩,[],_⟩ rfl (args:=[_]) Tryz.func56 rfl (by kernel_rfl) Tryz.ntmps56 (by simp) (by kernel_rfl) ?_
 intro ν fr;have nuE:=fr.nu
 have f0:=fr.2 0
 obtain⟨x,hx,elx⟩:=Bw hi
 have s0: ∀o,SubA (FsT pb s pl lp lcap L rv i A) ((ν 0,o)::FsT pb s pl lp lcap L rv i A):=fun o=>SubA.fresh f0 (SubA.refl _)
 have pk:=fun o=>LK pb s pl lp lcap L rv A hp i x hx ((ν 0,o)::FsT pb s pl lp lcap L rv i A) (s0 o)
 obtain⟨m3,m4⟩:=FsOk.far f0
 have hA0:Vm.AA A (ν 0)=none:=(SubA.skip hp.np (SubA.refl A)).none f0
 have eat:DF L i=x.a:=by unfold DF;rw[elx]
 obtain⟨j,hj0,hj,hij,hex⟩: ∃j,j=i∧j<L.length∧i≤j∧U3 L (L.length - j) j=exJ L i:=⟨i,rfl,hi,by omega,rfl⟩
 simp only[FsT,fB,Dl]at pk⊢
 simp (maxDischargeDepth:=16) only[AX,↓AW,simprocAttr,forall_const,nuE,fr.2,CP,pk,m3,m4]
 have dst_:True:=(by simp[nuE]);generalize ν 0=n2 at dst_  f0 m3 m4 hA0⊢
 clear nuE fr pk s0
 have f1:Vm.AA (FsT pb s pl lp lcap L rv j A) n2=none:=C3 f0
 refine Ah.at (A:=(n2,zX)::FsT pb s pl lp lcap L rv j A) (by rw[hj0];exact SubA.refl _) ?_
 clear hj0 f0
 generalize hm:L.length - j=m at hex
 induction m generalizing j with
 |zero=>omega
 | succ m ih=>
  obtain⟨y,hy,ely⟩:=Bw hj
  have s1: ∀o,SubA (FsT pb s pl lp lcap L rv j A) ((n2,o)::FsT pb s pl lp lcap L rv j A):=fun o=>SubA.fresh f1 (SubA.refl _)
  have pk:=fun o=>LK pb s pl lp lcap L rv A hp j y hy ((n2,o)::FsT pb s pl lp lcap L rv j A) (s1 o)
  have is1:=fun o=>jb pb s pl lp lcap L rv A hp j y hy 4 ⟨#[58]⟩ ((n2,o)::FsT pb s pl lp lcap L rv j A) (s1 o)
  have we:=pv hy hp.hl
  simp only[U3]at hex
  by_cases hk:y.k=0
  ·have hk':(y.k !=0)=false:=by simp[hk]
   rw[if_pos (.inl (by rw[ely];exact hk))]at hex
   simp only[FsT,fB,Dl,zX]at pk is1⊢
   refine Ah.intro (by kernel_rfl) ?_
   intro ν fr;have nuE:=And.intro (fr.mem (b:=n2) (by simp)) (And.intro (fr.mem (b:=pb) (by simp)) (fr.nu))
   simp (maxDischargeDepth:=16) only[AX,↓AW,simprocAttr,forall_const,nuE,fr.2,CP,pk,hk,hk',m3,m4]
   obtain⟨p1,p2,p3⟩:=hp.po i j x y hij hx hy
   have h4:=hp.s4
   have hsz:=hp.sz
   have c2:((x.a:Int)≤(y.a:Int))=True:=eq_true (by omega)
   have c3:((y.a:Int)≤(pl.size:Int))=True:=eq_true (by omega)
   have hxs:(pl.extract x.a y.a).size≤100000:=by rw[ByteArray.size_extract];omega
   have eay:DF L (exJ L i)=y.a:=by unfold DF;rw[←hex,ely]
   have hexl:exJ L i<L.length:=by rw[←hex];exact hj
   have esx:pl.extract (DF L i) (DF L (exJ L i))=pl.extract x.a y.a:=by rw[eat,eay]
   have wa: ∀(e:Int) (a:Nat) (t:Xs),PxO (pl.extract x.a y.a) e a t→IntKind.i64.wrap ((x.a:Int)+(a:Int))=((x.a+a:Nat):Int):=fun e a t h=>by
    have:=Tm h
    rw[ByteArray.size_extract]at this
    rw[Ak (by omega) (by omega)];omega
   clear nuE fr
   refine CO.tree [15] (.one 0 0 (.one 1 0 (.one 2 0 (.one 3 0 (.one 4 0 (.one 5 0 (.one 6 0 (.one 7 0 (.one 8 0 (.two 9 1 (.one 10 0 (.one 11 0 (.one 12 0 (.one 13 0 (.one 14 1 (.one 15 2 (.one 16 0 (.one 17 0 .nil)))))))) 14 0 (.one 9 1 (.one 10 0 (.one 11 0 (.one 12 0 (.one 13 0 (.one 15 2 (.one 16 0 (.one 17 0 .nil)))))))))))))))))) _ (SubA.refl _) (by kernel_rfl) (by kernel_rfl) (by kernel_rfl) (by kernel_rfl) (by kernel_rfl) ?_
   intro ν fr;have nuE:=And.intro (fr.mem (b:=n2) (by simp)) (And.intro (fr.mem (b:=pb) (by simp)) (fr.nu))
   simp (maxDischargeDepth:=16) only[AX,↓AW,simprocAttr,forall_const,nuE,fr.2,CP,E5,Ew,E3,pk,m3,m4,c2,c3]
   refine⟨?_, ?_⟩
   ·refine AZ.own (Y:=[(n2,_),(pb,_)]) (AZ.of (X:=fun _ _=>False) (QB A (pl.extract x.a y.a) hxs)) (dis2 hA0 hp.np) (fun ch D h=>h.elim) ?_
    rintro v D ⟨_,B,rfl,⟨e,a,t,r,hP,rfl,hr⟩,hBA,hD⟩ dD
    refine⟨B++A,hD, ?_⟩
    have dB:=dD.subl hD
    have gB:Vm.AA (B++A) n2=none:=dB n2 (by simp[Vm.AA])
    have gp:Vm.AA (B++A) pb=none:=dB pb (by simp[Vm.AA,m3])
    clear hD dD D nuE fr
    simp only[List.cons_append,List.nil_append,C5]
    intro ν fr;have nuE:=And.intro (fr.mem (b:=n2) (by simp)) (And.intro (fr.mem (b:=pb) (by simp)) (fr.nu))
    have g4:=fr.2 0
    simp (maxDischargeDepth:=16) only[AX,↓AW,simprocAttr,forall_const,nuE,fr.2,CP,E5,Ew,E3,m3,m4,Ck]
    refine⟨SubA.app (B:=[_,_]) hBA.right, ?_⟩
    split
    ·rename_i he
     refine⟨OM,e,a,t,by rw[esx];exact hP,he, ?_⟩
     rw[wa e a t hP,eat];rfl
    ·rename_i he
     have he0:e=0:=by simpa using he
     subst he0
     obtain rfl:=hP.zero
     refine⟨t,r,B++A,by rw[esx];exact hP,rfl,hr.mono (SubA.left _ _),hBA.right,gp,hexl, ?_⟩
     rw[←hex]
     exact SubA.skip ((SubA.skip (AK m4 gB) (SubA.refl _)).none g4) (SubA.skip (AK m4 gB) (SubA.refl _))
   ·have f4:=fr.2 0
    have m5:(ν 0=n2)=False:=(BF f4 (show Vm.AA ((n2,zX)::FsT pb s pl lp lcap L rv j A) n2=some zX by simp[Vm.AA])).1
    have m6:(n2=ν 0)=False:=(BF f4 (show Vm.AA ((n2,zX)::FsT pb s pl lp lcap L rv j A) n2=some zX by simp[Vm.AA])).2
    have m7:(ν 0=pb)=False:=(BF f4 (show Vm.AA ((n2,zX)::FsT pb s pl lp lcap L rv j A) pb=some (fB s pl lp L.length lcap j rv) by simp[FsT,Vm.AA,m3])).1
    have m8:(pb=ν 0)=False:=(BF f4 (show Vm.AA ((n2,zX)::FsT pb s pl lp lcap L rv j A) pb=some (fB s pl lp L.length lcap j rv) by simp[FsT,Vm.AA,m3])).2
    have g4A:Vm.AA A (ν 0)=none:=(show SubA A ((n2,zX)::FsT pb s pl lp lcap L rv j A) from SubA.fresh f1 (Ft hp.np)).none f4
    have dst_:True:=(by simp[nuE]);generalize ν 0=n4 at dst_  f4 m5 m6 m7 m8 g4A⊢
    refine AZ.own (Y:=[(n4,_),(n2,_),(pb,_)]) (AZ.of (X:=fun _ _=>False) (QB A (pl.extract x.a y.a) hxs)) (Tj g4A hA0 hp.np) (fun ch D h=>h.elim) ?_
    rintro v D ⟨_,B,rfl,⟨e,a,t,r,hP,rfl,hr⟩,hBA,hD⟩ dD
    refine⟨B++A,hD, ?_⟩
    have dB:=dD.subl hD
    have gB4:Vm.AA (B++A) n4=none:=dB n4 (by simp[Vm.AA])
    have gB:Vm.AA (B++A) n2=none:=dB n2 (by simp[Vm.AA,m5])
    have gp:Vm.AA (B++A) pb=none:=dB pb (by simp[Vm.AA,m3,m7])
    clear hD dD D nuE fr
    simp only[List.cons_append,List.nil_append,C5]
    intro ν fr;have nuE:=And.intro (fr.mem (b:=n4) (by simp)) (And.intro (fr.mem (b:=n2) (by simp)) (And.intro (fr.mem (b:=pb) (by simp)) (fr.nu)))
    simp (maxDischargeDepth:=16) only[AX,↓AW,simprocAttr,forall_const,nuE,fr.2,CP,E5,Ew,E3,m3,m4,m5,m6,m7,m8,Ck]
    refine⟨SubA.skip (AK m6 (AK m8 g4A)) (SubA.app (B:=[_,_]) hBA.right), ?_⟩
    split
    ·rename_i he
     refine⟨OM,e,a,t,by rw[esx];exact hP,he, ?_⟩
     rw[wa e a t hP,eat];rfl
    ·rename_i he
     have he0:e=0:=by simpa using he
     subst he0
     obtain rfl:=hP.zero
     refine⟨t,r,B++A,by rw[esx];exact hP,rfl,hr.mono (SubA.left _ _),hBA.right,gp,hexl, ?_⟩
     rw[←hex]
     exact SubA.skip (AK m8 gB4) (SubA.skip (AK m4 gB) (SubA.refl _))
  have hk':(y.k !=0)=true:=by simp[hk]
  cases hc:BX y 4 ⟨#[58]⟩with
  | true=>
   rw[if_pos (.inr (by rw[ely];exact hc))]at hex
   rw[hc]at is1
   simp only[FsT,fB,Dl,zX]at pk is1⊢
   refine Ah.intro (by kernel_rfl) ?_
   intro ν fr;have nuE:=And.intro (fr.mem (b:=n2) (by simp)) (And.intro (fr.mem (b:=pb) (by simp)) (fr.nu))
   simp (maxDischargeDepth:=16) only[AX,↓AW,simprocAttr,forall_const,nuE,fr.2,CP,pk,is1,eq_false hk,hk',m3,m4]
   obtain⟨p1,p2,p3⟩:=hp.po i j x y hij hx hy
   have h4:=hp.s4
   have hsz:=hp.sz
   have c2:((x.a:Int)≤(y.a:Int))=True:=eq_true (by omega)
   have c3:((y.a:Int)≤(pl.size:Int))=True:=eq_true (by omega)
   have hxs:(pl.extract x.a y.a).size≤100000:=by rw[ByteArray.size_extract];omega
   have eay:DF L (exJ L i)=y.a:=by unfold DF;rw[←hex,ely]
   have hexl:exJ L i<L.length:=by rw[←hex];exact hj
   have esx:pl.extract (DF L i) (DF L (exJ L i))=pl.extract x.a y.a:=by rw[eat,eay]
   have wa: ∀(e:Int) (a:Nat) (t:Xs),PxO (pl.extract x.a y.a) e a t→IntKind.i64.wrap ((x.a:Int)+(a:Int))=((x.a+a:Nat):Int):=fun e a t h=>by
    have:=Tm h
    rw[ByteArray.size_extract]at this
    rw[Ak (by omega) (by omega)];omega
   clear nuE fr
   refine CO.tree [15] (.one 0 0 (.one 1 0 (.one 2 0 (.one 3 0 (.one 4 0 (.one 5 0 (.one 6 0 (.one 7 0 (.one 8 0 (.two 9 1 (.one 10 0 (.one 11 0 (.one 12 0 (.one 13 0 (.one 14 1 (.one 15 2 (.one 16 0 (.one 17 0 .nil)))))))) 14 0 (.one 9 1 (.one 10 0 (.one 11 0 (.one 12 0 (.one 13 0 (.one 15 2 (.one 16 0 (.one 17 0 .nil)))))))))))))))))) _ (SubA.refl _) (by kernel_rfl) (by kernel_rfl) (by kernel_rfl) (by kernel_rfl) (by kernel_rfl) ?_
   intro ν fr;have nuE:=And.intro (fr.mem (b:=n2) (by simp)) (And.intro (fr.mem (b:=pb) (by simp)) (fr.nu))
   simp (maxDischargeDepth:=16) only[AX,↓AW,simprocAttr,forall_const,nuE,fr.2,CP,E5,Ew,E3,pk,m3,m4,c2,c3]
   refine⟨?_, ?_⟩
   ·refine AZ.own (Y:=[(n2,_),(pb,_)]) (AZ.of (X:=fun _ _=>False) (QB A (pl.extract x.a y.a) hxs)) (dis2 hA0 hp.np) (fun ch D h=>h.elim) ?_
    rintro v D ⟨_,B,rfl,⟨e,a,t,r,hP,rfl,hr⟩,hBA,hD⟩ dD
    refine⟨B++A,hD, ?_⟩
    have dB:=dD.subl hD
    have gB:Vm.AA (B++A) n2=none:=dB n2 (by simp[Vm.AA])
    have gp:Vm.AA (B++A) pb=none:=dB pb (by simp[Vm.AA,m3])
    clear hD dD D nuE fr
    simp only[List.cons_append,List.nil_append,C5]
    intro ν fr;have nuE:=And.intro (fr.mem (b:=n2) (by simp)) (And.intro (fr.mem (b:=pb) (by simp)) (fr.nu))
    have g4:=fr.2 0
    simp (maxDischargeDepth:=16) only[AX,↓AW,simprocAttr,forall_const,nuE,fr.2,CP,E5,Ew,E3,m3,m4,Ck]
    refine⟨SubA.app (B:=[_,_]) hBA.right, ?_⟩
    split
    ·rename_i he
     refine⟨OM,e,a,t,by rw[esx];exact hP,he, ?_⟩
     rw[wa e a t hP,eat];rfl
    ·rename_i he
     have he0:e=0:=by simpa using he
     subst he0
     obtain rfl:=hP.zero
     refine⟨t,r,B++A,by rw[esx];exact hP,rfl,hr.mono (SubA.left _ _),hBA.right,gp,hexl, ?_⟩
     rw[←hex]
     exact SubA.skip ((SubA.skip (AK m4 gB) (SubA.refl _)).none g4) (SubA.skip (AK m4 gB) (SubA.refl _))
   ·have f4:=fr.2 0
    have m5:(ν 0=n2)=False:=(BF f4 (show Vm.AA ((n2,zX)::FsT pb s pl lp lcap L rv j A) n2=some zX by simp[Vm.AA])).1
    have m6:(n2=ν 0)=False:=(BF f4 (show Vm.AA ((n2,zX)::FsT pb s pl lp lcap L rv j A) n2=some zX by simp[Vm.AA])).2
    have m7:(ν 0=pb)=False:=(BF f4 (show Vm.AA ((n2,zX)::FsT pb s pl lp lcap L rv j A) pb=some (fB s pl lp L.length lcap j rv) by simp[FsT,Vm.AA,m3])).1
    have m8:(pb=ν 0)=False:=(BF f4 (show Vm.AA ((n2,zX)::FsT pb s pl lp lcap L rv j A) pb=some (fB s pl lp L.length lcap j rv) by simp[FsT,Vm.AA,m3])).2
    have g4A:Vm.AA A (ν 0)=none:=(show SubA A ((n2,zX)::FsT pb s pl lp lcap L rv j A) from SubA.fresh f1 (Ft hp.np)).none f4
    have dst_:True:=(by simp[nuE]);generalize ν 0=n4 at dst_  f4 m5 m6 m7 m8 g4A⊢
    refine AZ.own (Y:=[(n4,_),(n2,_),(pb,_)]) (AZ.of (X:=fun _ _=>False) (QB A (pl.extract x.a y.a) hxs)) (Tj g4A hA0 hp.np) (fun ch D h=>h.elim) ?_
    rintro v D ⟨_,B,rfl,⟨e,a,t,r,hP,rfl,hr⟩,hBA,hD⟩ dD
    refine⟨B++A,hD, ?_⟩
    have dB:=dD.subl hD
    have gB4:Vm.AA (B++A) n4=none:=dB n4 (by simp[Vm.AA])
    have gB:Vm.AA (B++A) n2=none:=dB n2 (by simp[Vm.AA,m5])
    have gp:Vm.AA (B++A) pb=none:=dB pb (by simp[Vm.AA,m3,m7])
    clear hD dD D nuE fr
    simp only[List.cons_append,List.nil_append,C5]
    intro ν fr;have nuE:=And.intro (fr.mem (b:=n4) (by simp)) (And.intro (fr.mem (b:=n2) (by simp)) (And.intro (fr.mem (b:=pb) (by simp)) (fr.nu)))
    simp (maxDischargeDepth:=16) only[AX,↓AW,simprocAttr,forall_const,nuE,fr.2,CP,E5,Ew,E3,m3,m4,m5,m6,m7,m8,Ck]
    refine⟨SubA.skip (AK m6 (AK m8 g4A)) (SubA.app (B:=[_,_]) hBA.right), ?_⟩
    split
    ·rename_i he
     refine⟨OM,e,a,t,by rw[esx];exact hP,he, ?_⟩
     rw[wa e a t hP,eat];rfl
    ·rename_i he
     have he0:e=0:=by simpa using he
     subst he0
     obtain rfl:=hP.zero
     refine⟨t,r,B++A,by rw[esx];exact hP,rfl,hr.mono (SubA.left _ _),hBA.right,gp,hexl, ?_⟩
     rw[←hex]
     exact SubA.skip (AK m8 gB4) (SubA.skip (AK m4 gB) (SubA.refl _))
  |false=>
   rw[if_neg (by rw[ely];unfold FX;rw[hc];simp[hk])]at hex
   rw[hc]at is1
   simp only[FsT,fB,Dl,zX]at pk is1⊢
   refine Ah.intro (by kernel_rfl) ?_
   intro ν fr;have nuE:=And.intro (fr.mem (b:=n2) (by simp)) (And.intro (fr.mem (b:=pb) (by simp)) (fr.nu))
   simp (maxDischargeDepth:=16) only[AX,↓AW,simprocAttr,forall_const,nuE,fr.2,CP,pk,is1,eq_false hk,hk',m3,m4,we]
   exact Ah.weak (ih (j+1) (hp.he j y hy hk) (by omega) (C3 f1) (by omega) hex) (by simp only[BW,Ab,Nat.reduceEqDiff,↓reduceIte,reduceCtorEq,Nat.reduceAdd,and_self,and_true]) (SubA.refl _)
end Go.Proofs.YtfphceknmgadgaaGreatDoor
namespace Go.Proofs.YtfphceknmgadgaaGreatDoor
open Go.Vm
set_option maxHeartbeats 4000000
set_option maxRecDepth 20000
theorem T9{a:Prop}[Decidable a]{F:Prop}{P:Program}{f:FuncId}{args:Array Value}{M:AH}{X:List PanicEntry→AH→Prop}{K:Nu→Nat→Value→AH→Prop}(Rel:AH→Prop)(key: ∀M1,Rel M1→Lq P f args M1 X K)(ht:a→(∀M1,Rel M1→Lq P f args M1 X K)→F)(he: ¬a→Rel M):if a then F else Lq P f args M X K:=by
 by_cases ha:a
 ·rw[if_pos ha];exact ht ha key
 ·rw[if_neg ha];exact key _ (he ha)
def ic(A:AH)(u:Fu)(r:Fuv):Prop:=r.nm=u.nm∧ExR A u.w r.w∧r.bps=u.bps∧r.fx=u.fx∧r.mn=u.mn∧r.mx=u.mx
theorem ic.mono{A B:AH}{u:Fu}{r:Fuv}(h:ic A u r)(hs:SubA A B):ic B u r:=⟨h.1,h.2.1.mono hs,h.2.2⟩
theorem Pv(nm:ByteArray): ∀{rs:List Fuv} {us:List Fu},rs.map Fuv.nm=us.map Fu.nm→FC nm rs=G2 nm us
 | [],[],_=>rfl
 | [],u::us,h=>by simp at h
 |r::rs,[],h=>by simp at h
 |r::rs,u::us,h=>by
  simp only[List.map_cons,List.cons.injEq]at h
  have:=Pv nm h.2
  simp only[FC,G2,List.any_cons,h.1]at this⊢
  rw[this]
def oF(s pl:ByteArray)(L:List LR)(us:List Fu)(i:Nat)(ch:List PanicEntry):Prop:= ∃e a,FuE s pl L us i e a∧ch=eW e (a:Int)
theorem oF.of{s pl:ByteArray}{L:List LR}{us:List Fu}{i j:Nat}{e:Int}{ch:List PanicEntry}(h:YA L e j ch)(hu:FuE s pl L us i e (DF L j)):oF s pl L us i ch:=by
 obtain⟨x,h1,h2⟩:=h
 refine⟨e,_,hu, ?_⟩
 rw[h2];unfold DF;rw[Ez h1]
theorem jZ(a b c d e f g h i j:Value):Cy Tryz.prog 23 1 [(0,.agg #[a,b,c,d,e,f,g,h,i,j])]=some (38,#[a,b,c,d,e,f,g,h,i,j]):=by kernel_rfl
theorem oB{s:ByteArray}{L:List LR}{j:Nat}{b:Int}(h1:FX (BR L j)=true)(h2:(BR L (j+1)).k=2)(h3:BX (BR L (j+1+1)) 4 ⟨#[37]⟩=true)(h4:X6 (s.extract (DF L (j+1)) (DF L (j+1+1)+1)).toList=some b):fuT s L j=match opN L 4 ⟨#[43]⟩ (j+3)with
  | .error e=>.error e
  | .ok (fx,k)=>match opN L 1 H8 k with
   | .error e=>.error e
   | .ok (mn,k2)=>match opN L 1 H3 k2 with
    | .error e=>.error e
    | .ok (mx,k3)=>if BX (BR L k3) 4 ⟨#[59]⟩=false then .error k3 else .ok ((b,fx,mn,mx),k3+1):=by
 unfold fuT
 rw[if_neg (by rw[h1];simp),if_neg (by simp[h2]),if_neg (by rw[show j+2=j+1+1 from rfl,h3];simp),show j+2=j+1+1 from rfl,h4]
 rfl
theorem fK{B X:AH}{b:Nat}{o u:Obj}(h:Dis B ((b,o)::X)):Dis B ((b,u)::X):=fun x hx=>h x fun e=>hx (ck e)
theorem Ps{pb:Nat}{s pl:ByteArray}{lp:Option Addr}{lcap i j:Nat}{L:List LR}{rv rv':Value}{A B:AH}(h:Dis (FsT pb s pl lp lcap L rv i A) B):Dis (FsT pb s pl lp lcap L rv' j A) B:=fun x hx=>C3 (h x hx)
theorem fk(pb:Nat)(s pl:ByteArray)(lp:Option Addr)(lcap:Nat)(L:List LR)(A:AH)(hp:FsOk pb s pl lp L A)(i:Nat)(hi:i<L.length)(us:List Fu)(rs:List Fuv)(v0:Value)(B:AH)(ho:Cq Fo 10 38 v0 B rs)(hl:rs.length≤1000)(hnm:rs.map Fuv.nm=us.map Fu.nm)(dB:Dis B (FsT pb s pl lp lcap L v0 i A)):AZ Tryz.prog 20 #[.pointer (some ⟨pb,0,none⟩)] (FsT pb s pl lp lcap L v0 i (A++B)) (fun ch D=>oF s pl L us i ch) (fun u_ A_=> ∃u j r A' v' B',FuO s pl L us i u j∧Cq Fo 10 38 v' B' (rs++[r])∧ic A' u r∧j<L.length∧SubA A A'∧FsOk pb s pl lp L A'∧Dis B' (FsT pb s pl lp lcap L v' j A')∧SubA (FsT pb s pl lp lcap L v' j (A'++B')) A_):=by
 refine Bb ⟨Tryz.prog,20,Tryz.f20,57,[0,2],⟨[53,54,55,56,57,58,59],some (fun ch D=>oF s pl L us i ch)⟩,[],_⟩ rfl (args:=[_]) Tryz.func20 rfl (by kernel_rfl) Tryz.ntmps20 (by simp) (by kernel_rfl) ?_
 intro ν fr;have nuE:=fr.nu
 obtain⟨p,cap,rfl,hc1,hS⟩:=Cq.read (f:=Fo) (n:=10) P2 ho
 have hlen:rs.length=us.length:=by have:=congrArg List.length hnm;simpa using this
 obtain⟨x0,hx0,e0⟩:=Bw hi
 have hBp:Vm.AA B pb=none:=dB pb (by simp[FsT,Vm.AA])
 have hpB:FsOk pb s pl lp L (A++B):=hp.mono (SubA.left A B) (AJ hp.np hBp)
 have dBA:Dis B A:=Dis.subr dB (Ft hp.np)
 have hSB:ES Fo 10 (A++B) p rs:=hS.mono dBA.symm.right
 have is0:=kh pb s pl lp lcap L (.slice p rs.length cap) (A++B) hpB i x0 hx0 1 ⟨#[102,101,101]⟩
 have c1:((64:Int)≤(rs.length:Int))=(64≤us.length):=propext (by omega)
 have hfee:BX x0 1 D8=BX (BR L i) 1 D8:=by rw[e0]
 simp only[FsT,fB]at is0⊢
 by_cases hbig:64≤us.length∧BX x0 1 D8=true
 ·rw[show BX x0 1 ⟨#[102,101,101]⟩=true from hbig.2]at is0
  simp (maxDischargeDepth:=16) only[AX,↓AW,simprocAttr,forall_const,nuE,fr.2,CP,is0,c1,eq_true hbig.1]
  exact nW pb s pl lp lcap L _ (A++B) hpB i x0 hx0 3 (SubA.refl _) fun ch D h=>.of h (.h (by unfold GJ;rw[e0,if_pos hbig]))
 have EXP:=fun(X:List PanicEntry→AH→Prop) (hX: ∀ch D,oF s pl L us i ch→X ch D)=>(Gz pb s pl lp lcap L (.slice p rs.length cap) (A++B) hpB i x0 hx0 1 D8).mono (X':=X) (fun ch D ⟨h1,h2⟩=>hX ch D (.of h2 (.h (by unfold GJ;rw[e0,if_neg hbig,if_pos h1])))) fun v D h=>h
 cases hf0:BX x0 1 ⟨#[102,101,101]⟩with
 |false=>
  rw[hf0]at is0
  simp (maxDischargeDepth:=16) only[AX,↓AW,simprocAttr,forall_const,nuE,fr.2,CP,is0]
  exact(EXP _ fun ch D h=>h).mono (fun ch D h=>h) fun v D h=>absurd h.1 (by rw[show BX x0 1 D8=false from hf0];simp)
 | true=>
  rw[hf0]at is0
  have c2:(64≤us.length)=False:=eq_false fun h=>hbig ⟨h,hf0⟩
  simp (maxDischargeDepth:=16) only[AX,↓AW,simprocAttr,forall_const,nuE,fr.2,CP,is0,c1,c2]
  refine AZ.own (Y:=[]) (EXP _ fun ch D h=>h) (Dis.nil _).symm (fun ch D h=>h) ?_
  rintro v D ⟨_,hD⟩ dD
  refine⟨_,hD, ?_⟩
  clear hD dD D nuE fr is0 EXP
  have hi1:i+1<L.length:=hp.he i x0 hx0 (by rw[Bu hf0];decide)
  obtain⟨x1,hx1,e1⟩:=Bw hi1
  simp only[FsT,fB,List.cons_append,List.nil_append]
  intro ν fr;have nuE:=And.intro (fr.mem (b:=pb) (by simp)) (fr.nu)
  have f2:Vm.AA (FsT pb s pl lp lcap L (.slice p rs.length cap) (i+1) (A++B)) (ν 0)=none:=fr.2 0
  obtain⟨m3,m4⟩:=FsOk.far f2
  simp (maxDischargeDepth:=16) only[AX,↓AW,simprocAttr,forall_const,nuE,fr.2,CP,m3,m4]
  have dst_:True:=(by simp[nuE]);generalize ν 0=n2 at dst_  f2 m3 m4⊢
  clear nuE fr
  have fT:=Pv (nm:=x1.t) hnm
  refine AZ.own (Y:=[(n2,_)]) (fG pb s pl lp lcap L p cap rs (A++B) hpB (i+1) x1 hx1 hSB (by omega)) (Dis.one (C3 f2)).symm (fun ch D h=>by
   rcases h with⟨h1,h2⟩|⟨h1,h3,h2⟩
   ·exact .of h2 (.h (by unfold GJ;rw[e0,if_neg hbig,if_neg (by rw[show BX x0 1 D8=true from hf0];simp),e1,if_pos h1]))
   ·exact .of h2 (.h (by unfold GJ;rw[e0,if_neg hbig,if_neg (by rw[show BX x0 1 D8=true from hf0];simp),e1,if_neg (by rw[h1];simp),if_pos (by rw[←fT];exact h3)]))) ?_
  rintro v D ⟨⟨hN,hNo⟩,rfl,hD⟩ dD
  refine⟨_,hD, ?_⟩
  clear hD dD D
  have hi2:i+2<L.length:=hp.he (i+1) x1 hx1 (by unfold F6 at hN;simp only[Bool.and_eq_true,decide_eq_true_eq]at hN;rw[hN.1];decide)
  obtain⟨x2,hx2,e2⟩:=Bw hi2
  simp only[FsT,fB,List.cons_append,List.nil_append]
  intro ν fr;have nuE:=And.intro (fr.mem (b:=n2) (by simp)) (And.intro (fr.mem (b:=pb) (by simp)) (fr.nu))
  simp (maxDischargeDepth:=16) only[AX,↓AW,simprocAttr,forall_const,nuE,fr.2,CP,m3,m4]
  clear nuE fr
  refine AZ.own (Y:=[(n2,_)]) (Gz pb s pl lp lcap L (.slice p rs.length cap) (A++B) hpB (i+2) x2 hx2 1 ⟨#[119,104,101,110]⟩) (Dis.one (C3 f2)).symm (fun ch D ⟨h1,h2⟩=>.of h2 (.h (by unfold GJ;rw[e0,if_neg hbig,if_neg (by rw[show BX x0 1 D8=true from hf0];simp),e1,if_neg (by rw[hN];simp),if_neg (by rw[←fT,hNo];simp),e2,if_pos h1]))) ?_
  rintro v D ⟨hW,hD⟩ dD
  refine⟨_,hD, ?_⟩
  clear hD dD D
  have hH:GJ L us i=none:=by unfold GJ;rw[e0,if_neg hbig,if_neg (by rw[show BX x0 1 D8=true from hf0];simp),e1,if_neg (by rw[hN];simp),if_neg (by rw[←fT,hNo];simp),e2,if_neg (by rw[hW];simp)]
  have hi3:i+3<L.length:=hp.he (i+2) x2 hx2 (by rw[Bu hW];decide)
  have f2A:Vm.AA (FsT pb s pl lp lcap L (.slice p rs.length cap) (i+3) A) n2=none:=(SubA.left (FsT pb s pl lp lcap L (.slice p rs.length cap) (i+3) A) B).none (C3 f2)
  have f2B:Vm.AA B n2=none:=(Dis.right (show Dis (FsT pb s pl lp lcap L (.slice p rs.length cap) (i+3) A) B from Ps dB.symm)).none (C3 f2)
  simp only[FsT,fB,List.cons_append,List.nil_append]
  intro ν fr;have nuE:=And.intro (fr.mem (b:=n2) (by simp)) (And.intro (fr.mem (b:=pb) (by simp)) (fr.nu))
  simp (maxDischargeDepth:=16) only[AX,↓AW,simprocAttr,forall_const,nuE,fr.2,CP,m3,m4]
  clear nuE fr
  refine AZ.par (Y:=[(n2,_)]) (E:=FsT pb s pl lp lcap L (.slice p rs.length cap) (i+3) A) (X:=B) (fR pb s pl lp lcap L (.slice p rs.length cap) A hp (i+3) hi3) (Dis.one f2A).symm (Ps dB.symm) (Dis.one f2B) (fun ch D ⟨e,a,t,h1,h2,h3⟩=>⟨e,DF L (i+3)+a,.x hH h1 h2,h3⟩) ?_
  rintro v D ⟨t,w,A2,hq,rfl,hw,hs2,hn2,hj,hD⟩ dD
  refine⟨_,hD, ?_⟩
  obtain⟨j,ej⟩: ∃j,exJ L (i+3)=j:=⟨_,rfl⟩
  rw[ej]at hj hD⊢
  have gE:Vm.AA (FsT pb s pl lp lcap L (.slice p rs.length cap) j A2) n2=none:=hD.none (dD n2 (by simp[Vm.AA]))
  have dE:Dis (FsT pb s pl lp lcap L (.slice p rs.length cap) j A2) B:=Dis.subr (dD.subl hD) (show SubA B ((n2,_)::B) from SubA.skip f2B (SubA.refl _))
  clear hD dD D
  have hp2:FsOk pb s pl lp L A2:=hp.mono hs2 hn2
  have dA2:Dis A2 B:=fun x hx=>(Ft (lp:=lp) (s:=s) (pl:=pl) (lcap:=lcap) (L:=L) (rv:=(.slice p rs.length cap)) (i:=j) hn2).none (dE x hx)
  have hpC:FsOk pb s pl lp L (A2++B):=hp2.mono (SubA.left A2 B) (AJ hn2 hBp)
  have gC:Vm.AA (FsT pb s pl lp lcap L (.slice p rs.length cap) j (A2++B)) n2=none:=by
   have:Vm.AA (FsT pb s pl lp lcap L (.slice p rs.length cap) j A2++B) n2=none:=AJ gE f2B
   exact this
  obtain⟨x3,hx3,e3⟩:=Bw hj
  have hS0:Pq pl L i=pl.extract (DF L (i+3)) (DF L j):=by unfold Pq;rw[ej]
  rw[ej,←hS0]at hq
  have fE: ∀{k:Nat},fuT s L j=.error k→FuE s pl L us i 2 (DF L k):=fun h=>.t hH hq (by rw[ej];exact h)
  simp only[FsT,fB,List.cons_append,List.nil_append,C5,Ck]
  intro ν fr;have nuE:=And.intro (fr.mem (b:=n2) (by simp)) (And.intro (fr.mem (b:=pb) (by simp)) (fr.nu))
  simp (maxDischargeDepth:=16) only[AX,↓AW,simprocAttr,forall_const,nuE,fr.2,CP,m3,m4]
  clear nuE fr
  refine AZ.own (Y:=[(n2,_)]) (Gz pb s pl lp lcap L (.slice p rs.length cap) (A2++B) hpC j x3 hx3 4 ⟨#[58]⟩) (Dis.one (C3 gC)).symm (fun ch D ⟨h1,h2⟩=>.of h2 (fE (by unfold fuT;rw[e3,if_pos (show FX x3=false from h1)]))) ?_
  rintro v D ⟨hC,hD⟩ dD
  refine⟨_,hD, ?_⟩
  clear hD dD D
  have hj1:j+1<L.length:=hp.he j x3 hx3 (by rw[Bu hC];decide)
  obtain⟨x4,hx4,e4⟩:=Bw hj1
  have hCL:FX (BR L j)=true:=by rw[e3];exact hC
  simp only[FsT,fB,List.cons_append,List.nil_append]
  intro ν fr;have nuE:=And.intro (fr.mem (b:=n2) (by simp)) (And.intro (fr.mem (b:=pb) (by simp)) (fr.nu))
  simp (maxDischargeDepth:=16) only[AX,↓AW,simprocAttr,forall_const,nuE,fr.2,CP,m3,m4]
  clear nuE fr
  refine AZ.own (Y:=[(n2,_)]) (Tu pb s pl lp lcap L (.slice p rs.length cap) (A2++B) hpC (j+1) x4 hx4) (Dis.one (C3 gC)).symm (fun ch D h=>by
   rcases h with⟨h1,h2⟩|⟨h1,h3,h2⟩|⟨h1,h3,h4,h2⟩
   ·exact .of h2 (fE (by unfold fuT;rw[if_neg (by rw[hCL];simp),if_pos h1]))
   ·exact .of h2 (fE (by unfold fuT;rw[if_neg (by rw[hCL];simp),if_neg (by simp[h1]),if_pos h3]))
   ·exact .of h2 (fE (by unfold fuT;rw[if_neg (by rw[hCL];simp),if_neg (by simp[h1]),if_neg (by rw[show j+2=j+1+1 from rfl,h3];simp),show j+2=j+1+1 from rfl,h4]))) ?_
  rintro v D ⟨b,⟨hP1,hP2,hP3⟩,rfl,hD⟩ dD
  refine⟨_,hD, ?_⟩
  clear hD dD D
  have hT:=oB hCL hP1 hP2 hP3
  have hj3:j+3<L.length:=by
   have h2:j+2<L.length:=hp.he (j+1) x4 hx4 (by rw[←e4,hP1];decide)
   obtain⟨y,hy,ey⟩:=Bw h2
   exact hp.he (j+2) y hy (by rw[←ey,Bu hP2];decide)
  clear hx3 hx4 e3 e4 hC
  obtain⟨k0,ek0⟩: ∃k0,j+3=k0:=⟨_,rfl⟩
  rw[show j+1+2=j+3 from rfl,ek0]
  rw[ek0]at hj3 hT
  obtain⟨y0,hy0,ey0⟩:=Bw hj3
  simp only[FsT,fB,List.cons_append,List.nil_append]
  intro ν fr;have nuE:=And.intro (fr.mem (b:=n2) (by simp)) (And.intro (fr.mem (b:=pb) (by simp)) (fr.nu))
  simp (maxDischargeDepth:=16) only[AX,↓AW,simprocAttr,forall_const,nuE,fr.2,CP,m3,m4]
  clear nuE fr
  refine AZ.own (Y:=[(n2,_)]) (AZ.of (X:=fun _ _=>False) (Gx pb s pl lp lcap L (.slice p rs.length cap) (A2++B) hpC k0 y0 hy0 4 ⟨#[43]⟩)) (Dis.one (C3 gC)).symm (fun ch D h=>h.elim) ?_
  rintro v D ⟨rfl,hD⟩ dD
  refine⟨_,hD, ?_⟩
  clear hD dD D
  obtain⟨z,hz⟩: ∃z,(if BX y0 4 ⟨#[43]⟩=true then k0+1 else k0)=z:=⟨_,rfl⟩
  rw[hz]
  simp only[FsT,fB,List.cons_append,List.nil_append]
  intro ν fr;have nuE:=And.intro (fr.mem (b:=n2) (by simp)) (And.intro (fr.mem (b:=pb) (by simp)) (fr.nu))
  simp (maxDischargeDepth:=16) only[AX,↓AW,simprocAttr,forall_const,nuE,fr.2,CP,m3,m4]
  clear nuE fr
  refine T9 (fun M1=> ∃k1 fx,opN L 4 ⟨#[43]⟩ k0=.ok (fx,k1)∧k1<L.length∧M1=[(n2,Obj.cells #[.string x1.t,.int .i64 w.op,.string w.nm,.string w.tx,.int .i64 w.n,.slice w.p w.len w.cap,.int .i64 b,.int .i64 fx,.int .i64 0,.int .i64 0] 38)]++FsT pb s pl lp lcap L (.slice p rs.length cap) k1 (A2++B)) ?_ ?_ ?_
  rotate_left
  ·intro ht key
   rw[if_pos ht]at hz
   subst hz
   have hk1:k0+1<L.length:=hp.he k0 y0 hy0 (by rw[Bu ht];decide)
   obtain⟨yy,hyy,eyy⟩:=Bw hk1
   have htL:BX (BR L k0) 4 ⟨#[43]⟩=true:=by rw[ey0];exact ht
   refine AZ.own (Y:=[(n2,_)]) (Gl pb s pl lp lcap L (.slice p rs.length cap) (A2++B) hpC (k0+1) yy hyy) (Dis.one (C3 gC)).symm (fun ch D ⟨h1,h2⟩=>.of h2 (fE (by
    have hop:opN L 4 ⟨#[43]⟩ k0=.error (k0+1):=by unfold opN;rw[if_pos htL,if_neg (by rw[eyy];exact h1)]
    rw[hT];simp only[hop]))) ?_
   rintro v D ⟨h1,rfl,hD⟩ dD
   refine⟨_,hD, ?_⟩
   clear hD dD D
   have ky:=key _ ⟨k0+1+1,yy.n,by unfold opN;rw[if_pos htL,eyy,if_pos h1],hp.he _ yy hyy (by rw[h1];decide),rfl⟩
   clear key
   simp only[FsT,fB,List.cons_append,List.nil_append]at ky⊢
   intro ν fr;have nuE:=And.intro (fr.mem (b:=n2) (by simp)) (And.intro (fr.mem (b:=pb) (by simp)) (fr.nu))
   simp (maxDischargeDepth:=16) only[AX,↓AW,simprocAttr,forall_const,nuE,fr.2,CP,m3,m4]
   exact ky
  ·intro hn
   rw[if_neg hn]at hz
   subst hz
   exact⟨k0,0,by unfold opN;rw[if_neg (by rw[ey0];exact hn)],hj3,rfl⟩
  rintro _ ⟨k1,fx,hop0,hkl,rfl⟩
  clear hz z hj3
  have hj3:=hkl
  clear hkl
  obtain⟨y1,hy1,ey1⟩:=Bw hj3
  simp only[FsT,fB,List.cons_append,List.nil_append]
  refine AZ.own (Y:=[(n2,_)]) (AZ.of (X:=fun _ _=>False) (Gx pb s pl lp lcap L (.slice p rs.length cap) (A2++B) hpC k1 y1 hy1 1 H8)) (Dis.one (C3 gC)).symm (fun ch D h=>h.elim) ?_
  rintro v D ⟨rfl,hD⟩ dD
  refine⟨_,hD, ?_⟩
  clear hD dD D
  obtain⟨z,hz⟩: ∃z,(if BX y1 1 H8=true then k1+1 else k1)=z:=⟨_,rfl⟩
  rw[hz]
  simp only[FsT,fB,List.cons_append,List.nil_append]
  intro ν fr;have nuE:=And.intro (fr.mem (b:=n2) (by simp)) (And.intro (fr.mem (b:=pb) (by simp)) (fr.nu))
  simp (maxDischargeDepth:=16) only[AX,↓AW,simprocAttr,forall_const,nuE,fr.2,CP,m3,m4]
  clear nuE fr
  refine T9 (fun M1=> ∃k2 mn,opN L 1 H8 k1=.ok (mn,k2)∧k2<L.length∧M1=[(n2,Obj.cells #[.string x1.t,.int .i64 w.op,.string w.nm,.string w.tx,.int .i64 w.n,.slice w.p w.len w.cap,.int .i64 b,.int .i64 fx,.int .i64 mn,.int .i64 0] 38)]++FsT pb s pl lp lcap L (.slice p rs.length cap) k2 (A2++B)) ?_ ?_ ?_
  rotate_left
  ·intro ht key
   rw[if_pos ht]at hz
   subst hz
   have hk1:k1+1<L.length:=hp.he k1 y1 hy1 (by rw[Bu ht];decide)
   obtain⟨yy,hyy,eyy⟩:=Bw hk1
   have htL:BX (BR L k1) 1 H8=true:=by rw[ey1];exact ht
   refine AZ.own (Y:=[(n2,_)]) (Gl pb s pl lp lcap L (.slice p rs.length cap) (A2++B) hpC (k1+1) yy hyy) (Dis.one (C3 gC)).symm (fun ch D ⟨h1,h2⟩=>.of h2 (fE (by
    have hop:opN L 1 H8 k1=.error (k1+1):=by unfold opN;rw[if_pos htL,if_neg (by rw[eyy];exact h1)]
    rw[hT];simp only[hop0,hop]))) ?_
   rintro v D ⟨h1,rfl,hD⟩ dD
   refine⟨_,hD, ?_⟩
   clear hD dD D
   have ky:=key _ ⟨k1+1+1,yy.n,by unfold opN;rw[if_pos htL,eyy,if_pos h1],hp.he _ yy hyy (by rw[h1];decide),rfl⟩
   clear key
   simp only[FsT,fB,List.cons_append,List.nil_append]at ky⊢
   intro ν fr;have nuE:=And.intro (fr.mem (b:=n2) (by simp)) (And.intro (fr.mem (b:=pb) (by simp)) (fr.nu))
   simp (maxDischargeDepth:=16) only[AX,↓AW,simprocAttr,forall_const,nuE,fr.2,CP,m3,m4]
   exact ky
  ·intro hn
   rw[if_neg hn]at hz
   subst hz
   exact⟨k1,0,by unfold opN;rw[if_neg (by rw[ey1];exact hn)],hj3,rfl⟩
  rintro _ ⟨k2,mn,hop1,hkl,rfl⟩
  clear hz z hj3
  have hj3:=hkl
  clear hkl
  obtain⟨y2,hy2,ey2⟩:=Bw hj3
  simp only[FsT,fB,List.cons_append,List.nil_append]
  refine AZ.own (Y:=[(n2,_)]) (AZ.of (X:=fun _ _=>False) (Gx pb s pl lp lcap L (.slice p rs.length cap) (A2++B) hpC k2 y2 hy2 1 H3)) (Dis.one (C3 gC)).symm (fun ch D h=>h.elim) ?_
  rintro v D ⟨rfl,hD⟩ dD
  refine⟨_,hD, ?_⟩
  clear hD dD D
  obtain⟨z,hz⟩: ∃z,(if BX y2 1 H3=true then k2+1 else k2)=z:=⟨_,rfl⟩
  rw[hz]
  simp only[FsT,fB,List.cons_append,List.nil_append]
  intro ν fr;have nuE:=And.intro (fr.mem (b:=n2) (by simp)) (And.intro (fr.mem (b:=pb) (by simp)) (fr.nu))
  simp (maxDischargeDepth:=16) only[AX,↓AW,simprocAttr,forall_const,nuE,fr.2,CP,m3,m4]
  clear nuE fr
  refine T9 (fun M1=> ∃k3 mx,opN L 1 H3 k2=.ok (mx,k3)∧k3<L.length∧M1=[(n2,Obj.cells #[.string x1.t,.int .i64 w.op,.string w.nm,.string w.tx,.int .i64 w.n,.slice w.p w.len w.cap,.int .i64 b,.int .i64 fx,.int .i64 mn,.int .i64 mx] 38)]++FsT pb s pl lp lcap L (.slice p rs.length cap) k3 (A2++B)) ?_ ?_ ?_
  rotate_left
  ·intro ht key
   rw[if_pos ht]at hz
   subst hz
   have hk1:k2+1<L.length:=hp.he k2 y2 hy2 (by rw[Bu ht];decide)
   obtain⟨yy,hyy,eyy⟩:=Bw hk1
   have htL:BX (BR L k2) 1 H3=true:=by rw[ey2];exact ht
   refine AZ.own (Y:=[(n2,_)]) (Gl pb s pl lp lcap L (.slice p rs.length cap) (A2++B) hpC (k2+1) yy hyy) (Dis.one (C3 gC)).symm (fun ch D ⟨h1,h2⟩=>.of h2 (fE (by
    have hop:opN L 1 H3 k2=.error (k2+1):=by unfold opN;rw[if_pos htL,if_neg (by rw[eyy];exact h1)]
    rw[hT];simp only[hop0,hop1,hop]))) ?_
   rintro v D ⟨h1,rfl,hD⟩ dD
   refine⟨_,hD, ?_⟩
   clear hD dD D
   have ky:=key _ ⟨k2+1+1,yy.n,by unfold opN;rw[if_pos htL,eyy,if_pos h1],hp.he _ yy hyy (by rw[h1];decide),rfl⟩
   clear key
   simp only[FsT,fB,List.cons_append,List.nil_append]at ky⊢
   intro ν fr;have nuE:=And.intro (fr.mem (b:=n2) (by simp)) (And.intro (fr.mem (b:=pb) (by simp)) (fr.nu))
   simp (maxDischargeDepth:=16) only[AX,↓AW,simprocAttr,forall_const,nuE,fr.2,CP,m3,m4]
   exact ky
  ·intro hn
   rw[if_neg hn]at hz
   subst hz
   exact⟨k2,0,by unfold opN;rw[if_neg (by rw[ey2];exact hn)],hj3,rfl⟩
  rintro _ ⟨k3,mx,hop2,hkl,rfl⟩
  clear hz z hj3
  have hj3:=hkl
  clear hkl
  obtain⟨y3,hy3,ey3⟩:=Bw hj3
  simp only[FsT,fB,List.cons_append,List.nil_append]
  refine AZ.own (Y:=[(n2,_)]) (Gz pb s pl lp lcap L (.slice p rs.length cap) (A2++B) hpC k3 y3 hy3 4 ⟨#[59]⟩) (Dis.one (C3 gC)).symm (fun ch D ⟨h1,h2⟩=>.of h2 (fE (by rw[hT];simp only[hop0,hop1,hop2];rw[ey3,if_pos h1]))) ?_
  rintro v D ⟨hE,hD⟩ dD
  refine⟨_,hD, ?_⟩
  clear hD dD D
  have hj4:k3+1<L.length:=hp.he k3 y3 hy3 (by rw[Bu hE];decide)
  have hTO:fuT s L j=.ok ((b,fx,mn,mx),k3+1):=by rw[hT];simp only[hop0,hop1,hop2];rw[ey3,if_neg (by rw[hE];simp)]
  have hO:FuO s pl L us i ⟨(BR L (i+1)).t,t,b,fx,mn,mx⟩ (k3+1):=.ok hH hq (by rw[ej];exact hTO)
  simp only[FsT,fB,List.cons_append,List.nil_append]
  intro ν fr;have nuE:=And.intro (fr.mem (b:=n2) (by simp)) (And.intro (fr.mem (b:=pb) (by simp)) (fr.nu))
  simp (maxDischargeDepth:=16) only[AX,↓AW,simprocAttr,forall_const,nuE,fr.2,CP,m3,m4]
  refine CO.plan [(0,0),(1,0),(2,0),(3,0),(4,0),(5,0),(6,0),(7,1),(8,0),(9,0),(10,2)] [(n2,Obj.cells #[.string x1.t,.int .i64 w.op,.string w.nm,.string w.tx,.int .i64 w.n,.slice w.p w.len w.cap,.int .i64 b,.int .i64 fx,.int .i64 mn,.int .i64 mx] 38),(pb,fB s pl lp L.length lcap (k3+1) (.slice p rs.length cap))] (SubA.left [_,_] _) (by kernel_rfl) (by kernel_rfl) (by kernel_rfl) (by kernel_rfl) (by kernel_rfl) (by kernel_rfl) ?_
  clear nuE fr
  simp only[fB]
  intro ν fr;have nuE:=And.intro (fr.mem (b:=n2) (by simp)) (And.intro (fr.mem (b:=pb) (by simp)) (fr.nu))
  have g7:Vm.AA ((n2,Obj.cells #[.string x1.t,.int .i64 w.op,.string w.nm,.string w.tx,.int .i64 w.n,.slice w.p w.len w.cap,.int .i64 b,.int .i64 fx,.int .i64 mn,.int .i64 mx] 38)::FsT pb s pl lp lcap L (.slice p rs.length cap) (k3+1) (A2++B)) (ν 0)=none:=fr.2 0
  simp (maxDischargeDepth:=16) only[AX,↓AW,simprocAttr,forall_const,nuE,fr.2,CP,m3,m4,jZ]
  have dst_:True:=(by simp[nuE]);generalize ν 0=n7 at dst_  g7⊢
  clear nuE fr
  have r0:ic A2 ⟨(BR L (i+1)).t,t,b,fx,mn,mx⟩ ⟨x1.t,w,b,fx,mn,mx⟩:=⟨by rw[e1],hw,rfl,rfl,rfl,rfl⟩
  have sW:SubA ((n2,Obj.cells #[.string x1.t,.int .i64 w.op,.string w.nm,.string w.tx,.int .i64 w.n,.slice w.p w.len w.cap,.int .i64 b,.int .i64 fx,.int .i64 mn,.int .i64 mx] 38)::FsT pb s pl lp lcap L (.slice p rs.length cap) (k3+1) A2) ((n2,Obj.cells #[.string x1.t,.int .i64 w.op,.string w.nm,.string w.tx,.int .i64 w.n,.slice w.p w.len w.cap,.int .i64 b,.int .i64 fx,.int .i64 mn,.int .i64 mx] 38)::FsT pb s pl lp lcap L (.slice p rs.length cap) (k3+1) (A2++B)):=SubA.left ((n2,_)::FsT pb s pl lp lcap L (.slice p rs.length cap) (k3+1) A2) B
  have dB2:Dis B ((n2,Obj.cells #[.string x1.t,.int .i64 w.op,.string w.nm,.string w.tx,.int .i64 w.n,.slice w.p w.len w.cap,.int .i64 b,.int .i64 fx,.int .i64 mn,.int .i64 mx] 38)::FsT pb s pl lp lcap L (.slice p rs.length cap) (k3+1) A2):=Fm f2B (Ps dE).symm
  have sB:SubA B ((n2,Obj.cells #[.string x1.t,.int .i64 w.op,.string w.nm,.string w.tx,.int .i64 w.n,.slice w.p w.len w.cap,.int .i64 b,.int .i64 fx,.int .i64 mn,.int .i64 mx] 38)::FsT pb s pl lp lcap L (.slice p rs.length cap) (k3+1) (A2++B)):=SubA.skip f2B (Ps (j:=k3+1) (rv':=(.slice p rs.length cap)) dE).right
  refine NJ.use ?_
  refine Ey (m:=1) (news:=Fo ⟨x1.t,w,b,fx,mn,mx⟩) (B:=B) WK VX rfl (by decide) ho (SubA.trans sB (SubA.fresh g7 (SubA.refl _))) (.inr ⟨n7,0,rfl,by simp[Vm.AA,DX,Fo]⟩) (by simp[Fo,Value.oneCell']) (by simp only[maxLen];omega) (by omega) ?_
  intro v' B' ho2 hb2
  have ho3:Cq Fo 10 38 v' B' (rs++[⟨x1.t,w,b,fx,mn,mx⟩]):=by
   unfold Cq
   rw[List.length_append,List.flatMap_append]
   simpa using ho2
  obtain⟨p',cap',rfl,_⟩:=ho3.slice
  have dB':Dis B' ((n2,Obj.cells #[.string x1.t,.int .i64 w.op,.string w.nm,.string w.tx,.int .i64 w.n,.slice w.p w.len w.cap,.int .i64 b,.int .i64 fx,.int .i64 mn,.int .i64 mx] 38)::FsT pb s pl lp lcap L (.slice p rs.length cap) (k3+1) A2):=Ll hb2 dB2 (SubA.trans sW (SubA.fresh g7 (SubA.refl _)))
  refine⟨((n2,Obj.cells #[.string x1.t,.int .i64 w.op,.string w.nm,.string w.tx,.int .i64 w.n,.slice w.p w.len w.cap,.int .i64 b,.int .i64 fx,.int .i64 mn,.int .i64 mx] 38)::FsT pb s pl lp lcap L (.slice p rs.length cap) (k3+1) A2)++B',SubA.both (dB'.sub (SubA.trans sW (SubA.fresh g7 (SubA.refl _)))) (SubA.left _ _), ?_⟩
  simp only[FsT,fB,List.cons_append]
  intro ν fr;have nuE:=And.intro (fr.mem (b:=n2) (by simp)) (And.intro (fr.mem (b:=pb) (by simp)) (fr.nu))
  simp (maxDischargeDepth:=16) only[AX,↓AW,simprocAttr,forall_const,nuE,fr.2,CP,m3,m4]
  have dP:Dis B' (FsT pb s pl lp lcap L (.slice p rs.length cap) (k3+1) A2):=Dis.subr dB' (SubA.fresh (C3 gE) (SubA.refl _))
  have nA2:Vm.AA A2 n2=none:=(Ft hn2).none gE
  have nB':Vm.AA B' n2=none:=dB' n2 (by simp[Vm.AA])
  exact⟨_,k3+1,⟨x1.t,w,b,fx,mn,mx⟩,A2,_,B',hO,ho3,r0,hj4,hs2,hp2,fK dP,SubA.skip (AK m4 (AJ nA2 nB')) (SubA.refl _)⟩
end Go.Proofs.YtfphceknmgadgaaGreatDoor
namespace Go.Vm
theorem XY[dd:DefD]{P:Program}{n:Nat}{ρ:Ba}{Q:Exit→Act→World→Prop}{a:Act}{w:World}{l:Array Oper}{tl:List Oper}{d:Nat}{x:Operand}{t0 tt ty:TypeId}{pos:String}{aft:Array Edge}{v r:Value}(hk:CV n ρ a)(hx:BE ρ x=some v)(hd:d<n)
  (hr:(Instr.typeAssert v t0 tt true).run P w=.ok r w) (h: ∀a',CV n ((d,some r)::ρ) a'→wpList P l Q tl a' w):wpList P l Q (⟨some d,.typeAssert x t0 tt true,ty,pos,aft,none⟩::tl) a w:=by
 have hrun:(execOp a.eval ⟨some d,.typeAssert x t0 tt true,ty,pos,aft,none⟩).run P w=.ok (.value r) w:=by
  simp only[execOp,Ac hk hx,Sem.run_bind,hr,Result.andThen_ok,Sem.run_pure]
 unfold wpList
 rw[if_pos (by simp[Region.wanted])]
 refine .inl ?_
 unfold Oper.wp
 rw[hrun]
 simp only[Oper.upon]
 exact h _ (hk.put hd r)
end Go.Vm
namespace Go.Proofs.YtfphceknmgadgaaGreatDoor
open Go.Vm
set_option maxHeartbeats 4000000
set_option maxRecDepth 20000
theorem mo(b2 b3 b4:Nat)(v2:Value)(e at_ e0 a0:Int)(A:AH)(w:World)(hs:DO ((b2,.cells #[v2] 23)::(b3,.cells #[.int .i64 e0] 24)::(b4,.cells #[.int .i64 a0] 3)::A) w.heap)(h23:(b2=b3)=False)(h24:(b2=b4)=False)(h34:(b3=b4)=False):CallsD Tryz.prog 16 #[.pointer (some ⟨b2,0,none⟩),.pointer (some ⟨b3,0,none⟩),.pointer (some ⟨b4,0,none⟩)] (.panicking (eW e at_)) w fun en u w'=>en=.returned (.tuple #[])∧u=.panicking [{v:=(.iface 41 (.agg #[.int .i64 e,.int .i64 at_])),recovered:=true}]∧DO ((b2,.cells #[.slice none 0 0] 23)::(b3,.cells #[.int .i64 e] 24)::(b4,.cells #[.int .i64 at_] 3)::A) w'.heap∧Ca ((b2,.cells #[v2] 23)::(b3,.cells #[.int .i64 e0] 24)::(b4,.cells #[.int .i64 a0] 3)::A) w.heap ((b2,.cells #[.slice none 0 0] 23)::(b3,.cells #[.int .i64 e] 24)::(b4,.cells #[.int .i64 at_] 3)::A) w'.heap∧Vm.BV w w':=by
 refine callsD_of_wpS Tryz.func16 rfl fun c₀ cs hu=> ?_
 apply wpS_seq
 apply wpS_region
 simp[wpOpsS,go_sem,recoverD,hu,Tryz.ntmps16,Exit.thenS,eW]
 refine wpS_of_wp (wp_seq ?_)
 refine wp_region ?_
 simp[wpOps,go_sem,Exit.then,Exit.inBlock,Array.replicate]
 refine .inl (.inl ?_)
 refine wp_cond (t:=true) (by simp[Act.eval]) ?_
 simp only[if_true]
 refine wp_seq ?_
 refine wp_region_lit ?_
 refine DC (dd:=dd0) (imp:=⟨[],none⟩) (n:=21) (A:=((b2,.cells #[v2] 23)::(b3,.cells #[.int .i64 e0] 24)::(b4,.cells #[.int .i64 a0] 3)::A)) (ρ:=(3,some (.iface 41 (.agg #[.int .i64 e,.int .i64 at_])))::[(0,some (.pointer (some ⟨b2,0,none⟩))),(1,some (.pointer (some ⟨b3,0,none⟩))),(2,some (.pointer (some ⟨b4,0,none⟩)))]) (KK:=fun ρ' A'=>ρ'=(10,some (.iface 41 (.agg #[.int .i64 e,.int .i64 at_])))::(3,some (.iface 41 (.agg #[.int .i64 e,.int .i64 at_])))::[(0,some (.pointer (some ⟨b2,0,none⟩))),(1,some (.pointer (some ⟨b3,0,none⟩))),(2,some (.pointer (some ⟨b4,0,none⟩)))]∧A'=((b2,.cells #[v2] 23)::(b3,.cells #[.int .i64 e0] 24)::(b4,.cells #[.int .i64 a0] 3)::A)) rfl ?_ hs ?_ ?_ ?_
 ·refine⟨rfl,by simp,fun t v h=> ?_⟩
  simp only[Vm.get]at h
  split at h
  ·rename_i q;subst q;simpa using h
  ·split at h
   ·rename_i q;subst q;simpa using h
   ·split at h
    ·rename_i q;subst q;simpa using h
    ·split at h
     ·rename_i q;subst q;simpa using h
     ·cases h
 ·intro ν fr
  have nuE:=fr.nu
  simp (maxDischargeDepth:=16) only[AX,↓AW,simprocAttr,forall_const,nuE,fr.2,CP]
 ·rintro ch w' ⟨X0,A',h1,_⟩ _
  cases h1
 rintro ρ' A' a1 w1 ⟨rfl,rfl⟩ hk1 hs1 kp1 rr1
 refine XY (dd:=dd0) (v:=(.iface 41 (.agg #[.int .i64 e,.int .i64 at_]))) (r:=.tuple #[.agg #[.int .i64 e,.int .i64 at_],.bool true]) hk1 rfl (by decide) (by simp[Instr.typeAssert,go_sem]) ?_
 intro a2 hk2
 have hk2: @CV dd0 21 ((11,some (.tuple #[.agg #[.int .i64 e,.int .i64 at_],.bool true]))::[(0,some (.pointer (some ⟨b2,0,none⟩))),(1,some (.pointer (some ⟨b3,0,none⟩))),(2,some (.pointer (some ⟨b4,0,none⟩)))]) a2:=CV.weak (dd:=dd0) hk2 (by simp only[BW,Ab,Nat.reduceEqDiff,↓reduceIte,reduceCtorEq,Nat.reduceAdd,and_self,and_true])
 refine DC (dd:=dd0) (imp:=⟨[],none⟩) (n:=21) (A:=((b2,.cells #[v2] 23)::(b3,.cells #[.int .i64 e0] 24)::(b4,.cells #[.int .i64 a0] 3)::A)) (ρ:=(11,some (.tuple #[.agg #[.int .i64 e,.int .i64 at_],.bool true]))::[(0,some (.pointer (some ⟨b2,0,none⟩))),(1,some (.pointer (some ⟨b3,0,none⟩))),(2,some (.pointer (some ⟨b4,0,none⟩)))]) (KK:=fun ρ' A'=>ρ'=(9,some (.tuple #[.agg #[.int .i64 e,.int .i64 at_],.bool true]))::(11,some (.tuple #[.agg #[.int .i64 e,.int .i64 at_],.bool true]))::[(0,some (.pointer (some ⟨b2,0,none⟩))),(1,some (.pointer (some ⟨b3,0,none⟩))),(2,some (.pointer (some ⟨b4,0,none⟩)))]∧A'=((b2,.cells #[v2] 23)::(b3,.cells #[.int .i64 e0] 24)::(b4,.cells #[.int .i64 a0] 3)::A)) rfl hk2 hs1 ?_ ?_ ?_
 ·intro ν fr
  have nuE:=fr.nu
  simp (maxDischargeDepth:=16) only[AX,↓AW,simprocAttr,forall_const,nuE,fr.2,CP,h23,h24,h34]
 ·rintro ch w' ⟨X0,A',h1,_⟩ _
  cases h1
 rintro ρ' A' a3 w3 ⟨rfl,rfl⟩ hk3 hs3 kp3 rr3
 have hk3: @CV dd0 21 ((9,some (.tuple #[.agg #[.int .i64 e,.int .i64 at_],.bool true]))::[(0,some (.pointer (some ⟨b2,0,none⟩))),(1,some (.pointer (some ⟨b3,0,none⟩))),(2,some (.pointer (some ⟨b4,0,none⟩)))]) a3:=CV.weak (dd:=dd0) hk3 (by simp only[BW,Ab,Nat.reduceEqDiff,↓reduceIte,reduceCtorEq,Nat.reduceAdd,and_self,and_true])
 refine DC (dd:=dd0) (imp:=⟨[],none⟩) (n:=21) (A:=((b2,.cells #[v2] 23)::(b3,.cells #[.int .i64 e0] 24)::(b4,.cells #[.int .i64 a0] 3)::A)) (ρ:=(9,some (.tuple #[.agg #[.int .i64 e,.int .i64 at_],.bool true]))::[(0,some (.pointer (some ⟨b2,0,none⟩))),(1,some (.pointer (some ⟨b3,0,none⟩))),(2,some (.pointer (some ⟨b4,0,none⟩)))]) (KK:=fun ρ' A'=>ρ'=(12,some (.agg #[.int .i64 e,.int .i64 at_]))::(9,some (.tuple #[.agg #[.int .i64 e,.int .i64 at_],.bool true]))::[(0,some (.pointer (some ⟨b2,0,none⟩))),(1,some (.pointer (some ⟨b3,0,none⟩))),(2,some (.pointer (some ⟨b4,0,none⟩)))]∧A'=((b2,.cells #[v2] 23)::(b3,.cells #[.int .i64 e0] 24)::(b4,.cells #[.int .i64 a0] 3)::A)) rfl hk3 hs3 ?_ ?_ ?_
 ·intro ν fr
  have nuE:=fr.nu
  simp (maxDischargeDepth:=16) only[AX,↓AW,simprocAttr,forall_const,nuE,fr.2,CP,h23,h24,h34]
 ·rintro ch w' ⟨X0,A',h1,_⟩ _
  cases h1
 rintro ρ' A' a4 w4 ⟨rfl,rfl⟩ hk4 hs4 kp4 rr4
 refine DC (dd:=dd0) (imp:=⟨[],none⟩) (n:=21) (A:=((b2,.cells #[v2] 23)::(b3,.cells #[.int .i64 e0] 24)::(b4,.cells #[.int .i64 a0] 3)::A)) (ρ:=(12,some (.agg #[.int .i64 e,.int .i64 at_]))::(9,some (.tuple #[.agg #[.int .i64 e,.int .i64 at_],.bool true]))::[(0,some (.pointer (some ⟨b2,0,none⟩))),(1,some (.pointer (some ⟨b3,0,none⟩))),(2,some (.pointer (some ⟨b4,0,none⟩)))]) (KK:=fun ρ' A'=>ρ'=(13,some (.bool true))::(12,some (.agg #[.int .i64 e,.int .i64 at_]))::(9,some (.tuple #[.agg #[.int .i64 e,.int .i64 at_],.bool true]))::[(0,some (.pointer (some ⟨b2,0,none⟩))),(1,some (.pointer (some ⟨b3,0,none⟩))),(2,some (.pointer (some ⟨b4,0,none⟩)))]∧A'=((b2,.cells #[v2] 23)::(b3,.cells #[.int .i64 e0] 24)::(b4,.cells #[.int .i64 a0] 3)::A)) rfl hk4 hs4 ?_ ?_ ?_
 ·intro ν fr
  have nuE:=fr.nu
  simp (maxDischargeDepth:=16) only[AX,↓AW,simprocAttr,forall_const,nuE,fr.2,CP,h23,h24,h34]
 ·rintro ch w' ⟨X0,A',h1,_⟩ _
  cases h1
 rintro ρ' A' a5 w5 ⟨rfl,rfl⟩ hk5 hs5 kp5 rr5
 have hk5: @CV dd0 21 ((13,some (.bool true))::(12,some (.agg #[.int .i64 e,.int .i64 at_]))::[(0,some (.pointer (some ⟨b2,0,none⟩))),(1,some (.pointer (some ⟨b3,0,none⟩))),(2,some (.pointer (some ⟨b4,0,none⟩)))]) a5:=CV.weak (dd:=dd0) hk5 (by simp only[BW,Ab,Nat.reduceEqDiff,↓reduceIte,reduceCtorEq,Nat.reduceAdd,and_self,and_true])
 refine DC (dd:=dd0) (imp:=⟨[],none⟩) (n:=21) (A:=((b2,.cells #[v2] 23)::(b3,.cells #[.int .i64 e0] 24)::(b4,.cells #[.int .i64 a0] 3)::A)) (ρ:=(13,some (.bool true))::(12,some (.agg #[.int .i64 e,.int .i64 at_]))::[(0,some (.pointer (some ⟨b2,0,none⟩))),(1,some (.pointer (some ⟨b3,0,none⟩))),(2,some (.pointer (some ⟨b4,0,none⟩)))]) (KK:=fun ρ' A'=> ∃b,ρ'=(4,some (.pointer (some ⟨b,0,none⟩)))::(13,some (.bool true))::(12,some (.agg #[.int .i64 e,.int .i64 at_]))::[(0,some (.pointer (some ⟨b2,0,none⟩))),(1,some (.pointer (some ⟨b3,0,none⟩))),(2,some (.pointer (some ⟨b4,0,none⟩)))]∧A'=(b,.cells #[.int .i64 0,.int .i64 0] 41)::((b2,.cells #[v2] 23)::(b3,.cells #[.int .i64 e0] 24)::(b4,.cells #[.int .i64 a0] 3)::A)∧Vm.AA ((b2,.cells #[v2] 23)::(b3,.cells #[.int .i64 e0] 24)::(b4,.cells #[.int .i64 a0] 3)::A) b=none) rfl hk5 hs5 ?_ ?_ ?_
 ·intro ν fr
  have nuE:=fr.nu
  simp (maxDischargeDepth:=16) only[AX,↓AW,simprocAttr,forall_const,nuE,fr.2,CP,h23,h24,h34]
  exact⟨ν 0,rfl,rfl,fr.2 0⟩
 ·rintro ch w' ⟨X0,A',h1,_⟩ _
  cases h1
 rintro ρ' A' a6 w6 ⟨b,rfl,rfl,hb⟩ hk6 hs6 kp6 rr6
 have hb2:(b=b2)=False∧(b2=b)=False:=BF hb (show Vm.AA ((b2,.cells #[v2] 23)::(b3,.cells #[.int .i64 e0] 24)::(b4,.cells #[.int .i64 a0] 3)::A) b2=some (.cells #[v2] 23) by simp[Vm.AA])
 have hb3:(b=b3)=False∧(b3=b)=False:=BF hb (show Vm.AA ((b2,.cells #[v2] 23)::(b3,.cells #[.int .i64 e0] 24)::(b4,.cells #[.int .i64 a0] 3)::A) b3=some (.cells #[.int .i64 e0] 24) by simp[Vm.AA,h23])
 have hb4:(b=b4)=False∧(b4=b)=False:=BF hb (show Vm.AA ((b2,.cells #[v2] 23)::(b3,.cells #[.int .i64 e0] 24)::(b4,.cells #[.int .i64 a0] 3)::A) b4=some (.cells #[.int .i64 a0] 3) by simp[Vm.AA,h24,h34])
 refine DC (dd:=dd0) (imp:=⟨[],none⟩) (n:=21) (A:=(b,.cells #[.int .i64 0,.int .i64 0] 41)::((b2,.cells #[v2] 23)::(b3,.cells #[.int .i64 e0] 24)::(b4,.cells #[.int .i64 a0] 3)::A)) (ρ:=(4,some (.pointer (some ⟨b,0,none⟩)))::(13,some (.bool true))::(12,some (.agg #[.int .i64 e,.int .i64 at_]))::[(0,some (.pointer (some ⟨b2,0,none⟩))),(1,some (.pointer (some ⟨b3,0,none⟩))),(2,some (.pointer (some ⟨b4,0,none⟩)))]) (KK:=fun ρ' A'=>ρ'=(4,some (.pointer (some ⟨b,0,none⟩)))::(13,some (.bool true))::(12,some (.agg #[.int .i64 e,.int .i64 at_]))::[(0,some (.pointer (some ⟨b2,0,none⟩))),(1,some (.pointer (some ⟨b3,0,none⟩))),(2,some (.pointer (some ⟨b4,0,none⟩)))]∧A'=(b,.cells #[.int .i64 e,.int .i64 at_] 41)::((b2,.cells #[v2] 23)::(b3,.cells #[.int .i64 e0] 24)::(b4,.cells #[.int .i64 a0] 3)::A)) rfl hk6 hs6 ?_ ?_ ?_
 ·intro ν fr
  have nuE:=fr.nu
  simp (maxDischargeDepth:=16) only[AX,↓AW,simprocAttr,forall_const,nuE,fr.2,CP,h23,h24,h34]
 ·rintro ch w' ⟨X0,A',h1,_⟩ _
  cases h1
 rintro ρ' A' a7 w7 ⟨rfl,rfl⟩ hk7 hs7 kp7 rr7
 refine DC (dd:=dd0) (imp:=⟨[],none⟩) (n:=21) (A:=(b,.cells #[.int .i64 e,.int .i64 at_] 41)::((b2,.cells #[v2] 23)::(b3,.cells #[.int .i64 e0] 24)::(b4,.cells #[.int .i64 a0] 3)::A)) (ρ:=(4,some (.pointer (some ⟨b,0,none⟩)))::(13,some (.bool true))::(12,some (.agg #[.int .i64 e,.int .i64 at_]))::[(0,some (.pointer (some ⟨b2,0,none⟩))),(1,some (.pointer (some ⟨b3,0,none⟩))),(2,some (.pointer (some ⟨b4,0,none⟩)))]) (KK:=fun ρ' A'=>ρ'=(5,some (.bool true))::(4,some (.pointer (some ⟨b,0,none⟩)))::(13,some (.bool true))::(12,some (.agg #[.int .i64 e,.int .i64 at_]))::[(0,some (.pointer (some ⟨b2,0,none⟩))),(1,some (.pointer (some ⟨b3,0,none⟩))),(2,some (.pointer (some ⟨b4,0,none⟩)))]∧A'=(b,.cells #[.int .i64 e,.int .i64 at_] 41)::((b2,.cells #[v2] 23)::(b3,.cells #[.int .i64 e0] 24)::(b4,.cells #[.int .i64 a0] 3)::A)) rfl hk7 hs7 ?_ ?_ ?_
 ·intro ν fr
  have nuE:=fr.nu
  simp (maxDischargeDepth:=16) only[AX,↓AW,simprocAttr,forall_const,nuE,fr.2,CP,h23,h24,h34]
 ·rintro ch w' ⟨X0,A',h1,_⟩ _
  cases h1
 rintro ρ' A' a8 w8 ⟨rfl,rfl⟩ hk8 hs8 kp8 rr8
 have hk8: @CV dd0 21 ((5,some (.bool true))::(4,some (.pointer (some ⟨b,0,none⟩)))::[(0,some (.pointer (some ⟨b2,0,none⟩))),(1,some (.pointer (some ⟨b3,0,none⟩))),(2,some (.pointer (some ⟨b4,0,none⟩)))]) a8:=CV.weak (dd:=dd0) hk8 (by simp only[BW,Ab,Nat.reduceEqDiff,↓reduceIte,reduceCtorEq,Nat.reduceAdd,and_self,and_true])
 have kpA:=(((((kp1.trans kp3).trans kp4).trans kp5).trans kp6).trans kp7).trans kp8
 have rrA:=(((((rr1.trans rr3).trans rr4).trans rr5).trans rr6).trans rr7).trans rr8
 refine wpList_nil ?_
 simp only[Exit.then]
 refine wp_seq ?_
 refine wp_seq ?_
 refine CU (dd:=dd0) (imp:=⟨[],none⟩) (KK:=fun ρ' A'=>BW [(15,some (.bool false)),(4,some (.pointer (some ⟨b,0,none⟩))),(0,some (.pointer (some ⟨b2,0,none⟩))),(1,some (.pointer (some ⟨b3,0,none⟩))),(2,some (.pointer (some ⟨b4,0,none⟩)))] ρ'∧A'=(b,.cells #[.int .i64 e,.int .i64 at_] 41)::((b2,.cells #[v2] 23)::(b3,.cells #[.int .i64 e0] 24)::(b4,.cells #[.int .i64 a0] 3)::A)) hk8 hs8 ?_ ?_ ?_
 ·intro ν fr
  have nuE:=fr.nu
  simp (maxDischargeDepth:=16) only[AX,↓AW,simprocAttr,forall_const,nuE,fr.2,CP]
  exact(by simp only[BW,Ab,Nat.reduceEqDiff,↓reduceIte,reduceCtorEq,Nat.reduceAdd,and_self,and_true])
 ·rintro ch a' w' ⟨X0,A',h1,_⟩ _ _
  cases h1
 rintro ρ' A' a9 w9 ⟨hse,rfl⟩ hk9 hs9 kp9 rr9
 simp only[Exit.then]
 have hk9:=CV.weak (dd:=dd0) hk9 hse
 refine wp_cond (t:=false) (Ac hk9 rfl) ?_
 simp only[Bool.false_eq_true,if_false]
 refine wp_skip ?_
 simp only[Exit.then]
 refine HR (dd:=dd0) (imp:=⟨[],none⟩) (KK:=fun ρ' A'=>A'=(b,.cells #[.int .i64 e,.int .i64 at_] 41)::((b2,.cells #[.slice none 0 0] 23)::(b3,.cells #[.int .i64 e] 24)::(b4,.cells #[.int .i64 at_] 3)::A)) [(0,0),(1,0),(2,0),(3,0),(4,0),(5,0),(6,2)] [(b,.cells #[.int .i64 e,.int .i64 at_] 41)] (SubA.left [_] _) (by kernel_rfl) (by kernel_rfl) (by kernel_rfl) (by kernel_rfl) (by kernel_rfl) hk9 hs9 ?_ ?_ ?_ ?_
 ·intro ν fr
  have nuE:=fr.nu
  simp (maxDischargeDepth:=16) only[AX,↓AW,simprocAttr,forall_const,nuE,fr.2,CP,hb2,hb3,hb4,h23,h24,h34]
 ·rintro ch a' w' ⟨X0,A',h1,_⟩ _ _
  cases h1
 ·intro c a w dst v h
  cases dst<;>exact h
 rintro ρ' A' a10 w10 rfl hk10 hs10 kp10 rr10
 have hsub:SubA ((b2,.cells #[.slice none 0 0] 23)::(b3,.cells #[.int .i64 e] 24)::(b4,.cells #[.int .i64 at_] 3)::A) ((b,.cells #[.int .i64 e,.int .i64 at_] 41)::((b2,.cells #[.slice none 0 0] 23)::(b3,.cells #[.int .i64 e] 24)::(b4,.cells #[.int .i64 at_] 3)::A)):=SubA.fresh (by simpa[Vm.AA,hb2,hb3,hb4]using hb) (SubA.refl _)
 exact⟨hk10.1,.panicking [{v:=(.iface 41 (.agg #[.int .i64 e,.int .i64 at_])),recovered:=true}],rfl,.tuple #[],by simp[results,Tryz.results16,go_sem],rfl,rfl,hs10.sub hsub,((kpA.trans kp9).trans kp10).sub hsub,(rrA.trans rr9).trans rr10⟩
theorem fD(b2 b3 b4:Nat)(w:World):CallsD Tryz.prog 16 #[.pointer (some ⟨b2,0,none⟩),.pointer (some ⟨b3,0,none⟩),.pointer (some ⟨b4,0,none⟩)] .returning w fun en u w'=>en=.returned (.tuple #[])∧u=.returning∧w'=w:=by
 refine callsD_of_wpS Tryz.func16 rfl fun c₀ cs hu=> ?_
 apply wpS_seq
 apply wpS_region
 simp[wpOpsS,go_sem,recoverD,hu,Tryz.ntmps16,Exit.thenS]
 refine wpS_of_wp (wp_seq ?_)
 refine wp_region ?_
 simp[wpOps,go_sem,Exit.then,Exit.inBlock,Array.replicate]
 refine .inl (.inl ?_)
 refine wp_cond (t:=false) (by simp[Act.eval]) ?_
 simp only[Bool.false_eq_true,if_false]
 refine wp_skip ?_
 simp[bodyPostS,results,Tryz.results16]
 cases c₀
 simp_all
end Go.Proofs.YtfphceknmgadgaaGreatDoor
namespace Go.Proofs.YtfphceknmgadgaaGreatDoor
open Go.Vm
set_option maxHeartbeats 4000000
set_option maxRecDepth 20000
def NK(A:AH)(us:List Fu)(rs:List Fuv):Prop:= ∀(k:Nat) (u:Fu) (r:Fuv),us[k]? =some u→rs[k]? =some r→ic A u r
theorem NK.mono{A B:AH}{us:List Fu}{rs:List Fuv}(h:NK A us rs)(hs:SubA A B):NK B us rs:=fun k u r h1 h2=>(h k u r h1 h2).mono hs
theorem NK.push{A:AH}{us:List Fu}{rs:List Fuv}{u:Fu}{r:Fuv}(h:NK A us rs)(hl:rs.length=us.length)(hu:ic A u r):NK A (us++[u]) (rs++[r]):=by
 intro m y s hy hs
 by_cases hm:m<us.length
 ·rw[List.getElem?_append_left hm]at hy
  rw[List.getElem?_append_left (by omega)]at hs
  exact h m y s hy hs
 ·rw[List.getElem?_append_right (by omega)]at hy hs
  rw[hl]at hs
  generalize m - us.length=q at hy hs
  match q with
  |0=>simp at hy hs;subst hy;subst hs;exact hu
  |q+1=>simp at hy
def gy(B:AH)(us:List Fu)(p:Option Addr):Prop:= ∃rs:List Fuv,rs.length=us.length∧ES Fo 10 B p rs∧NK B us rs
theorem gy.mono{A B:AH}{us:List Fu}{p:Option Addr}(h:gy A us p)(hs:SubA A B):gy B us p:=by
 obtain⟨rs,h1,h2,h3⟩:=h
 exact⟨rs,h1,h2.mono hs,h3.mono hs⟩
def oS(s:ByteArray)(v:Value)(B:AH):Prop:= ∃e at_ us p cap,PfO s e at_ us∧us.length≤64∧us.length≤cap∧v=.tuple #[.slice p us.length cap,.int .i64 e,.int .i64 (at_:Nat)]∧gy B us p
def rL(s:ByteArray)(u:Value)(D:AH):Prop:= ∃v B,u=v∧oS s v B∧Dis B []∧SubA (B++[]) D
theorem eU{a:Act}{w w0:World}{ρ:Ba}{dd:DefD}{base A:AH}{b2 b3 b4:Nat}{v2:Value}{e at_:Int}{K:Value→AH→Prop}(hk: @CV dd 36 ρ a)(h2:Vm.get ρ 2=some (.pointer (some ⟨b2,0,none⟩)))(h3:Vm.get ρ 3=some (.pointer (some ⟨b3,0,none⟩)))(h4:Vm.get ρ 4=some (.pointer (some ⟨b4,0,none⟩)))
  (l2:Vm.AA A b2=some (.cells #[v2] 23)) (l3:Vm.AA A b3=some (.cells #[.int .i64 e] 24)) (l4:Vm.AA A b4=some (.cells #[.int .i64 at_] 3)) (hs:DO A w.heap) (hkp:Ca base w0.heap A w.heap) (hr:Vm.BV w0 w) (hK:K (.tuple #[v2,.int .i64 e,.int .i64 at_]) A):
  Leaves Tryz.prog Tryz.f7 a.tmps (fun en w'=>HU base w0.heap K en w'.heap∧Vm.BV w0 w') [] .returning w:=by
 have hv:F7 Tryz.prog ρ A Tryz.f7.results.toList=some [v2,.int .i64 e,.int .i64 at_]:=by
  rw[Tryz.results7]
  obtain⟨ν,fr⟩: ∃ν,DN ν A:=⟨fun i=>w.heap.size+i,⟨fun i j h=>by simpa using h,fun i=>hs.none_of_size (by simp)⟩⟩
  have nuE:=fr.nu
  simp (maxDischargeDepth:=16) only[AX,↓AW,simprocAttr,forall_const,nuE,fr.2,CP,h2,h3,h4,l2,l3,l4]
 exact⟨_,FT hk (GW hs hv),⟨_,A,rfl,hs,hkp,hK⟩,hr⟩
theorem W1{a:Act}{w w0:World}{ρ:Ba}{base A:AH}{b2 b3 b4:Nat}{v2:Value}{e at_:Int}{K:Value→AH→Prop}(hk: @CV (⟨[{target:=.fn (.func 16) #[.pointer (some ⟨b2,0,none⟩),.pointer (some ⟨b3,0,none⟩),.pointer (some ⟨b4,0,none⟩)],args:= #[]}],.normal⟩:DefD) 36 ρ a)(h2:Vm.get ρ 2=some (.pointer (some ⟨b2,0,none⟩)))(h3:Vm.get ρ 3=some (.pointer (some ⟨b3,0,none⟩)))(h4:Vm.get ρ 4=some (.pointer (some ⟨b4,0,none⟩)))
  (l2:Vm.AA A b2=some (.cells #[v2] 23)) (l3:Vm.AA A b3=some (.cells #[.int .i64 e] 24)) (l4:Vm.AA A b4=some (.cells #[.int .i64 at_] 3)) (hs:DO A w.heap) (hkp:Ca base w0.heap A w.heap) (hr:Vm.BV w0 w) (hK:K (.tuple #[v2,.int .i64 e,.int .i64 at_]) A):
  Leaves Tryz.prog Tryz.f7 a.tmps (fun en w'=>HU base w0.heap K en w'.heap∧Vm.BV w0 w') a.defers .returning w:=by
 rw[hk.1]
 refine leaves_cons (by simp) (DJ (by kernel_rfl)) ((fD b2 b3 b4 w).mono ?_)
 rintro en u w' ⟨rfl,rfl,rfl⟩
 exact eU hk h2 h3 h4 l2 l3 l4 hs hkp hr hK
theorem eY{a:Act}{w w0:World}{ρ:Ba}{base A:AH}{b2 b3 b4:Nat}{v2:Value}{e at_ e0 a0:Int}{K:Value→AH→Prop}(hk: @CV (⟨[{target:=.fn (.func 16) #[.pointer (some ⟨b2,0,none⟩),.pointer (some ⟨b3,0,none⟩),.pointer (some ⟨b4,0,none⟩)],args:= #[]}],.normal⟩:DefD) 36 ρ a)(h2:Vm.get ρ 2=some (.pointer (some ⟨b2,0,none⟩)))(h3:Vm.get ρ 3=some (.pointer (some ⟨b3,0,none⟩)))(h4:Vm.get ρ 4=some (.pointer (some ⟨b4,0,none⟩)))
  (h23:(b2=b3)=False) (h24:(b2=b4)=False) (h34:(b3=b4)=False) (hs:DO ((b2,Obj.cells #[v2] 23)::(b3,Obj.cells #[.int .i64 e0] 24)::(b4,Obj.cells #[.int .i64 a0] 3)::A) w.heap) (hkp:Ca base w0.heap ((b2,Obj.cells #[v2] 23)::(b3,Obj.cells #[.int .i64 e0] 24)::(b4,Obj.cells #[.int .i64 a0] 3)::A) w.heap) (hr:Vm.BV w0 w) (hK:K (.tuple #[.slice none 0 0,.int .i64 e,.int .i64 at_]) ((b2,.cells #[.slice none 0 0] 23)::(b3,.cells #[.int .i64 e] 24)::(b4,.cells #[.int .i64 at_] 3)::A)):
  Leaves Tryz.prog Tryz.f7 a.tmps (fun en w'=>HU base w0.heap K en w'.heap∧Vm.BV w0 w') a.defers (.panicking (eW e at_)) w:=by
 rw[hk.1]
 refine leaves_cons (by simp) (DJ (by kernel_rfl)) ((mo b2 b3 b4 v2 e at_ e0 a0 A w hs h23 h24 h34).mono ?_)
 rintro en u w' ⟨rfl,rfl,g1,g2,g3⟩
 exact eU hk h2 h3 h4 (by simp[Vm.AA]) (by simp[Vm.AA,h23]) (by simp[Vm.AA,h24,h34]) g1 (hkp.trans g2) (hr.trans g3) hK
theorem Tc{L:List LR}{k:Int}{w:ByteArray}{i j:Nat}{v:Int}(h:opN L k w i=.ok (v,j)):i≤j:=by
 unfold opN at h
 split at h
 ·split at h
  ·cases h;omega
  ·cases h
 ·cases h;omega
theorem nP{s:ByteArray}{L:List LR}{j k:Nat}{q:Int×Int×Int×Int}(h:fuT s L j=.ok (q,k)):j<k:=by
 unfold fuT at h
 split at h
 ·cases h
 split at h
 ·cases h
 split at h
 ·cases h
 split at h
 ·cases h
 split at h
 ·cases h
 rename_i h1
 split at h
 ·cases h
 rename_i h2
 split at h
 ·cases h
 rename_i h3
 split at h
 ·cases h
 cases h
 have:=Tc h1
 have:=Tc h2
 have:=Tc h3
 omega
theorem FuO.lts{s pl:ByteArray}{L:List LR}{us:List Fu}{i k:Nat}{u:Fu}(h:FuO s pl L us i u k):i<k∧us.length<64:=by
 cases h with
 | ok h1 h2 h3=>
  have g1:=nP h3
  have g2:i+3≤exJ L (i+3):=(Px (L:=L) (L.length - (i+3)) (i+3)).1
  refine⟨by omega, ?_⟩
  unfold GJ at h1
  split at h1
  ·cases h1
  ·rename_i hn
   split at h1
   ·cases h1
   ·rename_i hm
    have:BX (BR L i) 1 D8=true:=by simpa using hm
    rcases Nat.lt_or_ge us.length 64 with h|h
    ·exact h
    ·exact absurd ⟨h,this⟩ hn
theorem SB{x:LR}(h:ov x)(hk:x.k=1):DS x.t=true:=by
 rcases h with⟨_,_,h16,hw,c,l,hl,hc⟩|⟨k,_⟩|⟨k,_⟩|⟨k,_⟩
 ·unfold DS
  rw[BK]at h16 hw
  have hp:0<x.t.size:=by rw[←BK,hl];simp
  rw[hl]at hw⊢
  simp[hp,h16,hc,hw]
 all_goals rw[hk]at k;cases k
theorem X8(s:ByteArray): ∀f i,i≤s.size→(CW s f i).1=0→(∀x∈(CW s f i).2.2,i≤x.a∧x.a≤s.size)∧(CW s f i).2.2.Pairwise fun x y=>x.a≤y.a:=by
 intro f
 induction f with
 |zero=>intro i _ _;simp[CW]
 | succ f ih=>
  intro i hi h0
  by_cases h1:s.size≤i
  ·rw[Jr f h1]
   simp[GD];omega
  by_cases he:(B0 s i).e=0
  rotate_left
  ·rw[Jp f h1 he]at h0;exact absurd h0 he
  obtain⟨g1,g2⟩:=Ei s i (by omega) he
  rw[Me f h1 he rfl]at h0⊢
  have h0':(CW s f ((B0 s i).nx+Eg false (s.toList.drop (B0 s i).nx))).1=0:=h0
  obtain⟨i1,i2⟩:=ih _ (FN s _ g2) h0'
  have ea:=aN he
  simp only[h0',if_true,List.mem_cons,List.pairwise_cons]
  refine⟨fun x hx=> ?_,fun x hx=> ?_,i2⟩
  ·rcases hx with rfl|hx
   ·omega
   ·have:=i1 x hx;omega
  ·have:=i1 x hx;omega
theorem Oa{s:ByteArray}(h0:(AV s).1=0){i j:Nat}{x y:LR}(hij:i≤j)(hx:(AV s).2.2[i]? =some x)(hy:(AV s).2.2[j]? =some y):x.a≤y.a∧y.a≤s.size:=by
 have hk:=P9 false s.toList
 rw[BK]at hk
 unfold AV at h0 hx hy
 split at h0
 ·cases h0
 ·rename_i h4
  rw[if_neg h4]at hx hy
  obtain⟨h1,h2⟩:=X8 s _ _ hk h0
  refine⟨?_,(h1 y (List.mem_of_getElem? hy)).2⟩
  obtain⟨qi,hi⟩:=List.getElem?_eq_some_iff.1 hx
  obtain⟨qj,hj⟩:=List.getElem?_eq_some_iff.1 hy
  rcases Nat.lt_or_ge i j with h|h
  ·rw[←hi,←hj];exact List.pairwise_iff_getElem.1 h2 i j qi qj h
  ·have:i=j:=by omega
   subst this
   rw[hx]at hy;cases hy;exact Nat.le_refl _
theorem Pm(s:ByteArray)(hs:s.size≤100000):AM Tryz.prog 7 #[.string s] [] (rL s):=by
 refine GB (args:=[.string s]) Tryz.func7 rfl (by kernel_rfl) (n:=36) Tryz.ntmps7 (by simp) fun a w hd hk hsat=> ?_
 refine wp_seq ?_
 refine CU (dd:=dd0) (imp:=⟨[],none⟩) (A:=[]) (KK:=fun ρ' A'=> ∃b2 b3 b4,ρ'=[(4,some (.pointer (some ⟨b4,0,none⟩))),(3,some (.pointer (some ⟨b3,0,none⟩))),(2,some (.pointer (some ⟨b2,0,none⟩))),(0,some (.string s))]∧A'=[(b4,Obj.cells #[.int .i64 0] 3),(b3,Obj.cells #[.int .i64 0] 24),(b2,Obj.cells #[.slice none 0 0] 23)]∧b2≠b3∧b2≠b4∧b3≠b4) hk hsat ?_ ?_ ?_
 ·intro ν fr
  have nuE:=fr.nu
  simp (maxDischargeDepth:=16) only[AX,↓AW,simprocAttr,forall_const,nuE,fr.2,CP]
  exact⟨ν 0,ν 1,ν 2,rfl,rfl,by simp[nuE],by simp[nuE],by simp[nuE]⟩
 ·rintro ch a' w' ⟨X0,A',h1,_⟩ _ _
  cases h1
 rintro ρ' A' a1 w1 ⟨b2,b3,b4,rfl,rfl,n23,n24,n34⟩ hk1 hs1 kp1 rr1
 have h23:(b2=b3)=False:=eq_false n23
 have h24:(b2=b4)=False:=eq_false n24
 have h34:(b3=b4)=False:=eq_false n34
 have h32:(b3=b2)=False:=eq_false fun h=>n23 h.symm
 have h42:(b4=b2)=False:=eq_false fun h=>n24 h.symm
 have h43:(b4=b3)=False:=eq_false fun h=>n34 h.symm
 have perm:SubA [(b2,Obj.cells #[.slice none 0 0] 23),(b3,Obj.cells #[.int .i64 0] 24),(b4,Obj.cells #[.int .i64 0] 3)] [(b4,Obj.cells #[.int .i64 0] 3),(b3,Obj.cells #[.int .i64 0] 24),(b2,Obj.cells #[.slice none 0 0] 23)]:=fun x o hl=>by
  simp only[Vm.AA]at hl⊢
  by_cases x2:b2=x
  ·subst x2;simpa[h42,h32]using hl
  ·by_cases x3:b3=x
   ·subst x3;simpa[h23,h43]using hl
   ·simpa[x2,x3]using hl
 have hs1:=hs1.sub perm
 have kp1:=kp1.sub perm
 simp only[Exit.then]
 refine wp_seq ?_
 have t2:=hk1.2.2 2 _ rfl
 have t3:=hk1.2.2 3 _ rfl
 have t4:=hk1.2.2 4 _ rfl
 have t0:a1.defers=[]:=hk1.1
 have ts:a1.tmps.size=36:=hk1.2.1
 obtain⟨q2,g2⟩:=Array.getElem?_eq_some_iff.1 t2
 obtain⟨q3,g3⟩:=Array.getElem?_eq_some_iff.1 t3
 obtain⟨q4,g4⟩:=Array.getElem?_eq_some_iff.1 t4
 refine wp_region ?_
 simp[wpOps,go_sem,Exit.then,t2,t3,t4,t0,ts,g2,g3,g4]
 refine .inl (.inl ?_)
 refine wp_seq ?_
 have dn:Dis ([]:AH) [(b2,Obj.cells #[.slice none 0 0] 23),(b3,Obj.cells #[.int .i64 0] 24),(b4,Obj.cells #[.int .i64 0] 3)]:=fun x hx=>rfl
 refine CU (dd:=(⟨[{target:=.fn (.func 16) #[.pointer (some ⟨b2,0,none⟩),.pointer (some ⟨b3,0,none⟩),.pointer (some ⟨b4,0,none⟩)],args:= #[]}],.normal⟩:DefD)) (imp:=⟨[17],none⟩) (A:=[(b2,Obj.cells #[.slice none 0 0] 23),(b3,Obj.cells #[.int .i64 0] 24),(b4,Obj.cells #[.int .i64 0] 3)]) (ρ:=[(4,some (.pointer (some ⟨b4,0,none⟩))),(3,some (.pointer (some ⟨b3,0,none⟩))),(2,some (.pointer (some ⟨b2,0,none⟩))),(0,some (.string s))]) (KK:=fun ρ' A'=>BW ((5,some (.string (Cc s)))::(0,some (.string s))::[(2,some (.pointer (some ⟨b2,0,none⟩))),(3,some (.pointer (some ⟨b3,0,none⟩))),(4,some (.pointer (some ⟨b4,0,none⟩)))]) ρ'∧A'=[(b2,Obj.cells #[.slice none 0 0] 23),(b3,Obj.cells #[.int .i64 0] 24),(b4,Obj.cells #[.int .i64 0] 3)]) (hk1.lay rfl rfl rfl) hs1 ?_ ?_ ?_
 ·intro ν fr
  have nuE:=fr.nu
  simp (maxDischargeDepth:=16) only[AX,↓AW,simprocAttr,forall_const,nuE,fr.2,CP,h23,h24,h34,h32,h42,h43]
  refine AM.useX (nS s hs) (SubA.nil _) [(b2,Obj.cells #[.slice none 0 0] 23),(b3,Obj.cells #[.int .i64 0] 24),(b4,Obj.cells #[.int .i64 0] 3)] (SubA.refl _) dn ?_
  rintro v D rfl dD
  refine⟨[],SubA.nil _, ?_⟩
  clear nuE fr
  simp only[List.nil_append]
  intro ν fr;have nuE:=fr.nu
  simp (maxDischargeDepth:=16) only[AX,↓AW,simprocAttr,forall_const,nuE,fr.2,CP]
  exact(by simp only[BW,Ab,Nat.reduceEqDiff,↓reduceIte,reduceCtorEq,Nat.reduceAdd,and_self,and_true])
 ·rintro ch a' w' ⟨X0,A',h1,_⟩ _ _
  cases h1
 rintro ρ' A' a3 w3 ⟨hse3,rfl⟩ hk3 hs3 kp3 rr3
 simp only[Exit.then]
 have hk3:=CV.weak (dd:=(⟨[{target:=.fn (.func 16) #[.pointer (some ⟨b2,0,none⟩),.pointer (some ⟨b3,0,none⟩),.pointer (some ⟨b4,0,none⟩)],args:= #[]}],.normal⟩:DefD)) hk3 hse3
 refine wp_seq ?_
 refine CU (dd:=(⟨[{target:=.fn (.func 16) #[.pointer (some ⟨b2,0,none⟩),.pointer (some ⟨b3,0,none⟩),.pointer (some ⟨b4,0,none⟩)],args:= #[]}],.normal⟩:DefD)) (imp:=⟨[18],none⟩) (KK:=fun ρ' A'=> ∃lv B,BW ((6,some lv)::(5,some (.string (Cc s)))::(0,some (.string s))::[(2,some (.pointer (some ⟨b2,0,none⟩))),(3,some (.pointer (some ⟨b3,0,none⟩))),(4,some (.pointer (some ⟨b4,0,none⟩)))]) ρ'∧A'=(b2,Obj.cells #[.slice none 0 0] 23)::(b3,Obj.cells #[.int .i64 (AV (Cc s)).1] 24)::(b4,Obj.cells #[.int .i64 ((AV (Cc s)).2.1:Nat)] 3)::B∧Cq LR.cells 4 51 lv B (AV (Cc s)).2.2∧Dis B [(b2,Obj.cells #[.slice none 0 0] 23),(b3,Obj.cells #[.int .i64 0] 24),(b4,Obj.cells #[.int .i64 0] 3)]) hk3 hs3 ?_ ?_ ?_
 ·intro ν fr
  have nuE:=fr.nu
  simp (maxDischargeDepth:=16) only[AX,↓AW,simprocAttr,forall_const,nuE,fr.2,CP,h23,h24,h34,h32,h42,h43]
  refine AM.newX (Zy [] (Cc s) (by rw[Dp];exact hs)) (SubA.nil _) ?_
  rintro v B ⟨lv,rfl,ho⟩ hd
  refine⟨[(b2,Obj.cells #[.slice none 0 0] 23),(b3,Obj.cells #[.int .i64 0] 24),(b4,Obj.cells #[.int .i64 0] 3)]++B,SubA.both hd.right (SubA.left _ _), ?_⟩
  clear nuE fr
  simp only[List.cons_append,List.nil_append]
  intro ν fr;have nuE:=fr.nu
  simp (maxDischargeDepth:=16) only[AX,↓AW,simprocAttr,forall_const,nuE,fr.2,CP,h23,h24,h34,h32,h42,h43]
  exact⟨lv,B,(by simp only[BW,Ab,Nat.reduceEqDiff,↓reduceIte,reduceCtorEq,Nat.reduceAdd,and_self,and_true]),rfl,ho,hd⟩
 ·rintro ch a' w' ⟨X0,A',h1,_⟩ _ _
  cases h1
 rintro ρ' A' a4 w4 ⟨lv,B,hse4,rfl,ho,dB⟩ hk4 hs4 kp4 rr4
 simp only[Exit.then]
 have hk4:=CV.weak (dd:=(⟨[{target:=.fn (.func 16) #[.pointer (some ⟨b2,0,none⟩),.pointer (some ⟨b3,0,none⟩),.pointer (some ⟨b4,0,none⟩)],args:= #[]}],.normal⟩:DefD)) hk4 hse4
 refine wp_seq ?_
 refine wp_seq ?_
 by_cases h0:(AV (Cc s)).1=0
 rotate_left
 ·refine CU (dd:=(⟨[{target:=.fn (.func 16) #[.pointer (some ⟨b2,0,none⟩),.pointer (some ⟨b3,0,none⟩),.pointer (some ⟨b4,0,none⟩)],args:= #[]}],.normal⟩:DefD)) (imp:=⟨[],none⟩) (KK:=fun ρ' A'=>BW ((18,some (.bool true))::[(2,some (.pointer (some ⟨b2,0,none⟩))),(3,some (.pointer (some ⟨b3,0,none⟩))),(4,some (.pointer (some ⟨b4,0,none⟩)))]) ρ'∧A'=(b2,Obj.cells #[.slice none 0 0] 23)::(b3,Obj.cells #[.int .i64 (AV (Cc s)).1] 24)::(b4,Obj.cells #[.int .i64 ((AV (Cc s)).2.1:Nat)] 3)::B) hk4 hs4 ?_ ?_ ?_
  ·intro ν fr
   have nuE:=fr.nu
   have n0:((AV (Cc s)).1 !=0)=true:=by simp[h0]
   simp (maxDischargeDepth:=16) only[AX,↓AW,simprocAttr,forall_const,nuE,fr.2,CP,h23,h24,h34,h32,h42,h43,n0]
   exact(by simp only[BW,Ab,Nat.reduceEqDiff,↓reduceIte,reduceCtorEq,Nat.reduceAdd,and_self,and_true])
  ·rintro ch a' w' ⟨X0,A',h1,_⟩ _ _
   cases h1
  rintro ρ' A' a5 w5 ⟨hse5,rfl⟩ hk5 hs5 kp5 rr5
  simp only[Exit.then]
  have hk5:=CV.weak (dd:=(⟨[{target:=.fn (.func 16) #[.pointer (some ⟨b2,0,none⟩),.pointer (some ⟨b3,0,none⟩),.pointer (some ⟨b4,0,none⟩)],args:= #[]}],.normal⟩:DefD)) hk5 hse5
  refine wp_cond (t:=true) (Ac (dd:=(⟨[{target:=.fn (.func 16) #[.pointer (some ⟨b2,0,none⟩),.pointer (some ⟨b3,0,none⟩),.pointer (some ⟨b4,0,none⟩)],args:= #[]}],.normal⟩:DefD)) hk5 rfl) ?_
  simp only[if_true]
  refine wp_seq ?_
  refine Lx (dd:=(⟨[{target:=.fn (.func 16) #[.pointer (some ⟨b2,0,none⟩),.pointer (some ⟨b3,0,none⟩),.pointer (some ⟨b4,0,none⟩)],args:= #[]}],.normal⟩:DefD)) (im:=[]) (KK:=fun ρ' A'=>BW [(2,some (.pointer (some ⟨b2,0,none⟩))),(3,some (.pointer (some ⟨b3,0,none⟩))),(4,some (.pointer (some ⟨b4,0,none⟩)))] ρ'∧A'=(b2,Obj.cells #[.slice none 0 0] 23)::(b3,Obj.cells #[.int .i64 (AV (Cc s)).1] 24)::(b4,Obj.cells #[.int .i64 ((AV (Cc s)).2.1:Nat)] 3)::B) [(0,0),(1,0),(2,0),(3,0),(4,2)] [(b3,Obj.cells #[.int .i64 (AV (Cc s)).1] 24),(b4,Obj.cells #[.int .i64 ((AV (Cc s)).2.1:Nat)] 3)] (SubA.skip (by simp[Vm.AA,h32,h42]) (SubA.left [_,_] _)) (by kernel_rfl) (by kernel_rfl) (by kernel_rfl) (by kernel_rfl) (by kernel_rfl) hk5 hs5 ?_ ?_
  ·intro ν fr
   have nuE:=fr.nu
   simp (maxDischargeDepth:=16) only[AX,↓AW,simprocAttr,forall_const,nuE,fr.2,CP,h23,h24,h34,h32,h42,h43]
   exact(by simp only[BW,Ab,Nat.reduceEqDiff,↓reduceIte,reduceCtorEq,Nat.reduceAdd,and_self,and_true])
  rintro ρ' A' a6 w6 ⟨hse6,rfl⟩ hk6 hs6 kp6 rr6
  refine wp_ret ?_
  have hk6:=CV.weak (dd:=(⟨[{target:=.fn (.func 16) #[.pointer (some ⟨b2,0,none⟩),.pointer (some ⟨b3,0,none⟩),.pointer (some ⟨b4,0,none⟩)],args:= #[]}],.normal⟩:DefD)) hk6 hse6
  refine W1 (v2:=.slice none 0 0) (e:=(AV (Cc s)).1) (at_:=((AV (Cc s)).2.1:Nat)) hk6 rfl rfl rfl (by simp[Vm.AA]) (by simp[Vm.AA,h23]) (by simp[Vm.AA,h24,h34]) hs6 (((((kp1.trans kp3).trans kp4).trans kp5).trans kp6)) ((((rr1.trans rr3).trans rr4).trans rr5).trans rr6) ?_
  exact⟨_,[],rfl,⟨_,_,[],none,0,.scan h0,by simp,by simp,rfl,[],rfl,.inl rfl,fun k u r h=>by simp at h⟩,Dis.nil _,SubA.nil _⟩
 refine CU (dd:=(⟨[{target:=.fn (.func 16) #[.pointer (some ⟨b2,0,none⟩),.pointer (some ⟨b3,0,none⟩),.pointer (some ⟨b4,0,none⟩)],args:= #[]}],.normal⟩:DefD)) (imp:=⟨[],none⟩) (KK:=fun ρ' A'=>BW ((18,some (.bool false))::(6,some lv)::(5,some (.string (Cc s)))::(0,some (.string s))::[(2,some (.pointer (some ⟨b2,0,none⟩))),(3,some (.pointer (some ⟨b3,0,none⟩))),(4,some (.pointer (some ⟨b4,0,none⟩)))]) ρ'∧A'=(b2,Obj.cells #[.slice none 0 0] 23)::(b3,Obj.cells #[.int .i64 (AV (Cc s)).1] 24)::(b4,Obj.cells #[.int .i64 ((AV (Cc s)).2.1:Nat)] 3)::B) hk4 hs4 ?_ ?_ ?_
 ·intro ν fr
  have nuE:=fr.nu
  have n0:((AV (Cc s)).1 !=0)=false:=by simp[h0]
  simp (maxDischargeDepth:=16) only[AX,↓AW,simprocAttr,forall_const,nuE,fr.2,CP,h23,h24,h34,h32,h42,h43,n0]
  exact(by simp only[BW,Ab,Nat.reduceEqDiff,↓reduceIte,reduceCtorEq,Nat.reduceAdd,and_self,and_true])
 ·rintro ch a' w' ⟨X0,A',h1,_⟩ _ _
  cases h1
 rintro ρ' A' a5 w5 ⟨hse5,rfl⟩ hk5 hs5 kp5 rr5
 simp only[Exit.then]
 have hk5:=CV.weak (dd:=(⟨[{target:=.fn (.func 16) #[.pointer (some ⟨b2,0,none⟩),.pointer (some ⟨b3,0,none⟩),.pointer (some ⟨b4,0,none⟩)],args:= #[]}],.normal⟩:DefD)) hk5 hse5
 refine wp_cond (t:=false) (Ac (dd:=(⟨[{target:=.fn (.func 16) #[.pointer (some ⟨b2,0,none⟩),.pointer (some ⟨b3,0,none⟩),.pointer (some ⟨b4,0,none⟩)],args:= #[]}],.normal⟩:DefD)) hk5 rfl) ?_
 simp only[Bool.false_eq_true,if_false]
 refine wp_skip ?_
 simp only[Exit.then]
 refine wp_seq ?_
 obtain⟨lp,lcap,rfl,hc1,hL⟩:=Cq.read (f:=LR.cells) (n:=4) (fun x=>rfl) ho
 refine CU (dd:=(⟨[{target:=.fn (.func 16) #[.pointer (some ⟨b2,0,none⟩),.pointer (some ⟨b3,0,none⟩),.pointer (some ⟨b4,0,none⟩)],args:= #[]}],.normal⟩:DefD)) (imp:=⟨[],none⟩) (KK:=fun ρ' A'=> ∃pb,BW ((7,some (.pointer (some ⟨pb,0,none⟩)))::[(2,some (.pointer (some ⟨b2,0,none⟩))),(3,some (.pointer (some ⟨b3,0,none⟩))),(4,some (.pointer (some ⟨b4,0,none⟩)))]) ρ'∧A'=(pb,fB s (Cc s) lp (AV (Cc s)).2.2.length lcap 0 (.slice none 0 0))::(b2,Obj.cells #[.slice none 0 0] 23)::(b3,Obj.cells #[.int .i64 (AV (Cc s)).1] 24)::(b4,Obj.cells #[.int .i64 ((AV (Cc s)).2.1:Nat)] 3)::B∧Vm.AA ((b2,Obj.cells #[.slice none 0 0] 23)::(b3,Obj.cells #[.int .i64 (AV (Cc s)).1] 24)::(b4,Obj.cells #[.int .i64 ((AV (Cc s)).2.1:Nat)] 3)::B) pb=none) hk5 hs5 ?_ ?_ ?_
 ·intro ν fr
  have nuE:=fr.nu
  simp (maxDischargeDepth:=16) only[AX,↓AW,simprocAttr,forall_const,nuE,fr.2,CP,h23,h24,h34,h32,h42,h43]
  exact⟨ν 0,(by simp only[BW,Ab,Nat.reduceEqDiff,↓reduceIte,reduceCtorEq,Nat.reduceAdd,and_self,and_true]),rfl,fr.2 0⟩
 ·rintro ch a' w' ⟨X0,A',h1,_⟩ _ _
  cases h1
 rintro ρ' A' a6 w6 ⟨pb,hse6,rfl,fpb⟩ hk6 hs6 kp6 rr6
 simp only[Exit.then]
 have hk6:=CV.weak (dd:=(⟨[{target:=.fn (.func 16) #[.pointer (some ⟨b2,0,none⟩),.pointer (some ⟨b3,0,none⟩),.pointer (some ⟨b4,0,none⟩)],args:= #[]}],.normal⟩:DefD)) hk6 hse6
 refine wp_seq ?_
 refine wp_block ?_
 obtain⟨L,eL⟩: ∃L,(AV (Cc s)).2.2=L:=⟨_,rfl⟩
 have nb2:Vm.AA B b2=none:=dB b2 (by simp[Vm.AA])
 have nb3:Vm.AA B b3=none:=dB b3 (by simp[Vm.AA,h23])
 have nb4:Vm.AA B b4=none:=dB b4 (by simp[Vm.AA,h24,h34])
 have sB:SubA B ((b2,Obj.cells #[.slice none 0 0] 23)::(b3,Obj.cells #[.int .i64 (AV (Cc s)).1] 24)::(b4,Obj.cells #[.int .i64 ((AV (Cc s)).2.1:Nat)] 3)::B):=SubA.skip nb2 (SubA.skip nb3 (SubA.skip nb4 (SubA.refl _)))
 have p2:=BF fpb (show Vm.AA ((b2,Obj.cells #[.slice none 0 0] 23)::(b3,Obj.cells #[.int .i64 (AV (Cc s)).1] 24)::(b4,Obj.cells #[.int .i64 ((AV (Cc s)).2.1:Nat)] 3)::B) b2=some (.cells #[.slice none 0 0] 23) by simp[Vm.AA])
 have p3:=BF fpb (show Vm.AA ((b2,Obj.cells #[.slice none 0 0] 23)::(b3,Obj.cells #[.int .i64 (AV (Cc s)).1] 24)::(b4,Obj.cells #[.int .i64 ((AV (Cc s)).2.1:Nat)] 3)::B) b3=some (.cells #[.int .i64 (AV (Cc s)).1] 24) by simp[Vm.AA,h23])
 have p4:=BF fpb (show Vm.AA ((b2,Obj.cells #[.slice none 0 0] 23)::(b3,Obj.cells #[.int .i64 (AV (Cc s)).1] 24)::(b4,Obj.cells #[.int .i64 ((AV (Cc s)).2.1:Nat)] 3)::B) b4=some (.cells #[.int .i64 ((AV (Cc s)).2.1:Nat)] 3) by simp[Vm.AA,h24,h34])
 have hp0:FsOk pb s (Cc s) lp L B:=by
  obtain⟨K,hK,hw,hsz,hlen⟩:=EO h0
  rw[Dp]at hsz
  refine⟨sB.none fpb,by rw[←eL];exact hL,by rw[←eL];omega,by rw[←eL];exact Jh h0,(Dp s).symm,hsz,fun i x hx hk=> ?_,fun i j x y hij hx hy=> ?_⟩
  ·rw[←eL,hK]at hx
   rcases List.mem_append.1 (List.mem_of_getElem? hx)with h|h
   ·exact SB (hw x h) hk
   ·simp only[List.mem_singleton]at h;rw[h]at hk;cases hk
  ·rw[←eL]at hx hy
   obtain⟨g1,g2⟩:=Oa h0 hij hx hy
   rw[Dp]at g2
   refine⟨g1,g2,fun hk=> ?_⟩
   have:=J7 h0 y (List.mem_of_getElem? hy) hk
   rw[Dp]at this;exact this
 have hpos:0<L.length:=by
  obtain⟨K,hK,_⟩:=EO h0
  rw[←eL,hK];simp
 rw[eL]at hs6 kp6
 have PfE: ∀{e:Int} {a:Nat},FlE s (Cc s) L [] 0 e a→PfO s e a []:=fun h=>.er h0 (by rw[eL];exact h)
 have PfK: ∀{us:List Fu} {j:Nat},FlO s (Cc s) L [] 0 us j→PfO s 0 0 us:=fun h=>.ok h0 (by rw[eL];exact h)
 have kpA:=((((kp1.trans kp3).trans kp4).trans kp5).trans kp6)
 have rrA:=((((rr1.trans rr3).trans rr4).trans rr5).trans rr6)
 have perm6:SubA ((b2,Obj.cells #[.slice none 0 0] 23)::(b3,Obj.cells #[.int .i64 (AV (Cc s)).1] 24)::(b4,Obj.cells #[.int .i64 ((AV (Cc s)).2.1:Nat)] 3)::FsT pb s (Cc s) lp lcap L (.slice none 0 0) 0 (B++[])) ((pb,fB s (Cc s) lp L.length lcap 0 (.slice none 0 0))::(b2,Obj.cells #[.slice none 0 0] 23)::(b3,Obj.cells #[.int .i64 (AV (Cc s)).1] 24)::(b4,Obj.cells #[.int .i64 ((AV (Cc s)).2.1:Nat)] 3)::B):=fun x o hl=>by
  simp only[FsT,Vm.AA,List.append_nil]at hl⊢
  by_cases xp:pb=x
  ·subst xp;simpa[p2.2,p3.2,p4.2]using hl
  ·simpa[xp]using hl
 have hs6:=hs6.sub perm6
 have kpA:=kpA.sub perm6
 clear kp1 kp3 kp4 kp5 kp6 rr1 rr3 rr4 rr5 rr6 perm6 hs1 hs3 hs4 hs5 hk1 hk3 hk4 hk5
 refine wp_loop_ghost (fun n a' w'=> ∃j A' us rs v B',@CV (⟨[{target:=.fn (.func 16) #[.pointer (some ⟨b2,0,none⟩),.pointer (some ⟨b3,0,none⟩),.pointer (some ⟨b4,0,none⟩)],args:= #[]}],.normal⟩:DefD) 36 ((7,some (.pointer (some ⟨pb,0,none⟩)))::[(2,some (.pointer (some ⟨b2,0,none⟩))),(3,some (.pointer (some ⟨b3,0,none⟩))),(4,some (.pointer (some ⟨b4,0,none⟩)))]) a'∧DO ((b2,Obj.cells #[.slice none 0 0] 23)::(b3,Obj.cells #[.int .i64 (AV (Cc s)).1] 24)::(b4,Obj.cells #[.int .i64 ((AV (Cc s)).2.1:Nat)] 3)::FsT pb s (Cc s) lp lcap L v j (A'++B')) w'.heap∧Ca [] w.heap ((b2,Obj.cells #[.slice none 0 0] 23)::(b3,Obj.cells #[.int .i64 (AV (Cc s)).1] 24)::(b4,Obj.cells #[.int .i64 ((AV (Cc s)).2.1:Nat)] 3)::FsT pb s (Cc s) lp lcap L v j (A'++B')) w'.heap∧Vm.BV w w'∧n=L.length - j∧j<L.length∧FsOk pb s (Cc s) lp L A'∧
  Cq Fo 10 38 v B' rs∧rs.map Fuv.nm=us.map Fu.nm∧NK A' us rs∧Dis B' (FsT pb s (Cc s) lp lcap L v j A')∧(Vm.AA (FsT pb s (Cc s) lp lcap L v j (A'++B')) b2=none∧Vm.AA (FsT pb s (Cc s) lp lcap L v j (A'++B')) b3=none∧Vm.AA (FsT pb s (Cc s) lp lcap L v j (A'++B')) b4=none)∧
  (∀vs k,FlO s (Cc s) L us j vs k→FlO s (Cc s) L [] 0 vs k)∧(∀e a,FlE s (Cc s) L us j e a→FlE s (Cc s) L [] 0 e a)∧us.length≤64) (L.length - 0) ⟨0,B,[],[],_,[],hk6,hs6,kpA,rrA,rfl,hpos,hp0,Cq.nil _ _ _,rfl,fun k u r h=>by simp at h,Dis.nil _,⟨?_, ?_, ?_⟩,fun _ _ h=>h,fun _ _ h=>h,by simp⟩ ?_
 ·simp only[FsT,Vm.AA,List.append_nil,p2.1,if_false];exact nb2
 ·simp only[FsT,Vm.AA,List.append_nil,p3.1,if_false];exact nb3
 ·simp only[FsT,Vm.AA,List.append_nil,p4.1,if_false];exact nb4
 rintro n a7 w7 ⟨j,A',us,rs,v,B',hk7,hs7,kp7,rr7,rfl,hj,hp,hown,hnm,hall,dB',⟨o2,o3,o4⟩,hO,hE,h64⟩
 obtain⟨x,hx,elx⟩:=Bw hj
 have hBp:Vm.AA B' pb=none:=dB' pb (by simp[FsT,Vm.AA])
 have hpB:FsOk pb s (Cc s) lp L (A'++B'):=hp.mono (SubA.left A' B') (AJ hp.np hBp)
 refine wp_seq ?_
 refine wp_seq ?_
 refine CU (dd:=(⟨[{target:=.fn (.func 16) #[.pointer (some ⟨b2,0,none⟩),.pointer (some ⟨b3,0,none⟩),.pointer (some ⟨b4,0,none⟩)],args:= #[]}],.normal⟩:DefD)) (imp:=⟨[],none⟩) (KK:=fun ρ' A1=>BW ((29,some (.bool (x.k !=0)))::(7,some (.pointer (some ⟨pb,0,none⟩)))::[(2,some (.pointer (some ⟨b2,0,none⟩))),(3,some (.pointer (some ⟨b3,0,none⟩))),(4,some (.pointer (some ⟨b4,0,none⟩)))]) ρ'∧A1=(b2,Obj.cells #[.slice none 0 0] 23)::(b3,Obj.cells #[.int .i64 (AV (Cc s)).1] 24)::(b4,Obj.cells #[.int .i64 ((AV (Cc s)).2.1:Nat)] 3)::FsT pb s (Cc s) lp lcap L v j (A'++B')) hk7 hs7 ?_ ?_ ?_
 ·intro ν fr
  have nuE:=fr.nu
  have pk:=LK pb s (Cc s) lp lcap L v (A'++B') hpB j x hx ((b2,Obj.cells #[.slice none 0 0] 23)::(b3,Obj.cells #[.int .i64 (AV (Cc s)).1] 24)::(b4,Obj.cells #[.int .i64 ((AV (Cc s)).2.1:Nat)] 3)::FsT pb s (Cc s) lp lcap L v j (A'++B')) (SubA.skip o2 (SubA.skip o3 (SubA.skip o4 (SubA.refl _))))
  simp only[FsT,fB,Dl]at pk⊢
  simp (maxDischargeDepth:=16) only[AX,↓AW,simprocAttr,forall_const,nuE,fr.2,CP,h23,h24,h34,h32,h42,h43,pk]
  exact(by simp only[BW,Ab,Nat.reduceEqDiff,↓reduceIte,reduceCtorEq,Nat.reduceAdd,and_self,and_true])
 ·rintro ch a' w' ⟨X0,A',h1,_⟩ _ _
  cases h1
 rintro ρ' A1 a8 w8 ⟨hse8,rfl⟩ hk8 hs8 kp8 rr8
 simp only[Exit.then]
 have hk8:=CV.weak (dd:=(⟨[{target:=.fn (.func 16) #[.pointer (some ⟨b2,0,none⟩),.pointer (some ⟨b3,0,none⟩),.pointer (some ⟨b4,0,none⟩)],args:= #[]}],.normal⟩:DefD)) hk8 hse8
 by_cases hx0:x.k=0
 ·refine wp_cond (t:=false) (by rw[Ac (dd:=(⟨[{target:=.fn (.func 16) #[.pointer (some ⟨b2,0,none⟩),.pointer (some ⟨b3,0,none⟩),.pointer (some ⟨b4,0,none⟩)],args:= #[]}],.normal⟩:DefD)) hk8 rfl,hx0];rfl) ?_
  simp only[Bool.false_eq_true,if_false]
  refine wp_exit ?_
  simp only[Exit.then,Exit.inBlock,if_true]
  obtain⟨p,cap,rfl,hc1,hS⟩:=Cq.read (f:=Fo) (n:=10) P2 hown
  have hlen:rs.length=us.length:=by have:=congrArg List.length hnm;simpa using this
  have q2:=BF o2 (show Vm.AA (FsT pb s (Cc s) lp lcap L (.slice p rs.length cap) j (A'++B')) pb=some (fB s (Cc s) lp L.length lcap j (.slice p rs.length cap)) by simp[FsT,Vm.AA])
  have q3:=BF o3 (show Vm.AA (FsT pb s (Cc s) lp lcap L (.slice p rs.length cap) j (A'++B')) pb=some (fB s (Cc s) lp L.length lcap j (.slice p rs.length cap)) by simp[FsT,Vm.AA])
  have q4:=BF o4 (show Vm.AA (FsT pb s (Cc s) lp lcap L (.slice p rs.length cap) j (A'++B')) pb=some (fB s (Cc s) lp L.length lcap j (.slice p rs.length cap)) by simp[FsT,Vm.AA])
  refine wp_seq ?_
  refine CU (dd:=(⟨[{target:=.fn (.func 16) #[.pointer (some ⟨b2,0,none⟩),.pointer (some ⟨b3,0,none⟩),.pointer (some ⟨b4,0,none⟩)],args:= #[]}],.normal⟩:DefD)) (imp:=⟨[],none⟩) (KK:=fun ρ' A1=>BW [(2,some (.pointer (some ⟨b2,0,none⟩))),(3,some (.pointer (some ⟨b3,0,none⟩))),(4,some (.pointer (some ⟨b4,0,none⟩)))] ρ'∧A1=(b2,Obj.cells #[.slice p rs.length cap] 23)::(b3,Obj.cells #[.int .i64 0] 24)::(b4,Obj.cells #[.int .i64 0] 3)::FsT pb s (Cc s) lp lcap L (.slice p rs.length cap) j (A'++B')) hk8 hs8 ?_ ?_ ?_
  ·intro ν fr
   have nuE:=fr.nu
   simp only[FsT,fB]
   simp (maxDischargeDepth:=16) only[AX,↓AW,simprocAttr,forall_const,nuE,fr.2,CP,h23,h24,h34,h32,h42,h43,q2,q3,q4]
   exact(by simp only[BW,Ab,Nat.reduceEqDiff,↓reduceIte,reduceCtorEq,Nat.reduceAdd,and_self,and_true])
  ·rintro ch a' w' ⟨X0,A',h1,_⟩ _ _
   cases h1
  rintro ρ' A1 a9 w9 ⟨hse9,rfl⟩ hk9 hs9 kp9 rr9
  simp only[Exit.then]
  have hk9:=CV.weak (dd:=(⟨[{target:=.fn (.func 16) #[.pointer (some ⟨b2,0,none⟩),.pointer (some ⟨b3,0,none⟩),.pointer (some ⟨b4,0,none⟩)],args:= #[]}],.normal⟩:DefD)) hk9 hse9
  refine wp_ret ?_
  refine W1 (v2:=.slice p rs.length cap) (e:=0) (at_:=0) hk9 rfl rfl rfl (by simp[Vm.AA]) (by simp[Vm.AA,h23]) (by simp[Vm.AA,h24,h34]) hs9 ((kp7.trans kp8).trans kp9) ((rr7.trans rr8).trans rr9) ?_
  have dAB:Dis B' A':=Dis.subr dB' (Ft hp.np)
  refine⟨_,A'++B',rfl,⟨0,0,us,p,cap,PfK (hO _ _ (.fin (by rw[elx];exact hx0))),h64,by omega,by rw[hlen];rfl,rs,hlen,hS.mono dAB.symm.right,hall.mono (SubA.left _ _)⟩,fun x hx=>absurd rfl hx, ?_⟩
  rw[List.append_nil]
  exact SubA.trans (Ft hpB.np) (SubA.skip o2 (SubA.skip o3 (SubA.skip o4 (SubA.refl _))))
 refine wp_cond (t:=true) (by rw[Ac (dd:=(⟨[{target:=.fn (.func 16) #[.pointer (some ⟨b2,0,none⟩),.pointer (some ⟨b3,0,none⟩),.pointer (some ⟨b4,0,none⟩)],args:= #[]}],.normal⟩:DefD)) hk8 rfl];simp[hx0]) ?_
 simp only[if_true]
 refine wp_skip ?_
 simp only[Exit.then]
 refine wp_block ?_
 refine wp_region_lit ?_
 refine DC (dd:=(⟨[{target:=.fn (.func 16) #[.pointer (some ⟨b2,0,none⟩),.pointer (some ⟨b3,0,none⟩),.pointer (some ⟨b4,0,none⟩)],args:= #[]}],.normal⟩:DefD)) (imp:=⟨[],none⟩) (KK:=fun ρ' A1=>BW ((30,some (.pointer (some ⟨pb,0,none⟩)))::(7,some (.pointer (some ⟨pb,0,none⟩)))::[(2,some (.pointer (some ⟨b2,0,none⟩))),(3,some (.pointer (some ⟨b3,0,none⟩))),(4,some (.pointer (some ⟨b4,0,none⟩)))]) ρ'∧A1=(b2,Obj.cells #[.slice none 0 0] 23)::(b3,Obj.cells #[.int .i64 (AV (Cc s)).1] 24)::(b4,Obj.cells #[.int .i64 ((AV (Cc s)).2.1:Nat)] 3)::FsT pb s (Cc s) lp lcap L v j (A'++B')) rfl hk8 hs8 ?_ ?_ ?_
 ·intro ν fr
  have nuE:=fr.nu
  simp (maxDischargeDepth:=16) only[AX,↓AW,simprocAttr,forall_const,nuE,fr.2,CP]
  exact(by simp only[BW,Ab,Nat.reduceEqDiff,↓reduceIte,reduceCtorEq,Nat.reduceAdd,and_self,and_true])
 ·rintro ch w' ⟨X0,A',h1,_⟩ _
  cases h1
 rintro ρ' A1 a9 w9 ⟨hse9,rfl⟩ hk9 hs9 kp9 rr9
 have hk9:=CV.weak (dd:=(⟨[{target:=.fn (.func 16) #[.pointer (some ⟨b2,0,none⟩),.pointer (some ⟨b3,0,none⟩),.pointer (some ⟨b4,0,none⟩)],args:= #[]}],.normal⟩:DefD)) hk9 hse9
 have kpB:=(kp7.trans kp8).trans kp9
 have rrB:=(rr7.trans rr8).trans rr9
 have hlen:rs.length=us.length:=by have:=congrArg List.length hnm;simpa using this
 have hk0:(BR L j).k≠0:=by rw[elx];exact hx0
 have hcE:AZ Tryz.prog 20 #[.pointer (some ⟨pb,0,none⟩)] ((b2,Obj.cells #[.slice none 0 0] 23)::(b3,Obj.cells #[.int .i64 (AV (Cc s)).1] 24)::(b4,Obj.cells #[.int .i64 ((AV (Cc s)).2.1:Nat)] 3)::FsT pb s (Cc s) lp lcap L v j (A'++B')) (fun ch D=>oF s (Cc s) L us j ch∧SubA [(b2,Obj.cells #[.slice none 0 0] 23),(b3,Obj.cells #[.int .i64 (AV (Cc s)).1] 24),(b4,Obj.cells #[.int .i64 ((AV (Cc s)).2.1:Nat)] 3)] D)
   (fun _ D=> ∃u k r A2 v2 B2,FuO s (Cc s) L us j u k∧Cq Fo 10 38 v2 B2 (rs++[r])∧ic A2 u r∧k<L.length∧SubA A' A2∧FsOk pb s (Cc s) lp L A2∧Dis B2 (FsT pb s (Cc s) lp lcap L v2 k A2)∧(Vm.AA (FsT pb s (Cc s) lp lcap L v2 k (A2++B2)) b2=none∧Vm.AA (FsT pb s (Cc s) lp lcap L v2 k (A2++B2)) b3=none∧Vm.AA (FsT pb s (Cc s) lp lcap L v2 k (A2++B2)) b4=none)∧SubA ((b2,Obj.cells #[.slice none 0 0] 23)::(b3,Obj.cells #[.int .i64 (AV (Cc s)).1] 24)::(b4,Obj.cells #[.int .i64 ((AV (Cc s)).2.1:Nat)] 3)::FsT pb s (Cc s) lp lcap L v2 k (A2++B2)) D):=by
  refine AZ.to (fk pb s (Cc s) lp lcap L A' hp j hj us rs v B' hown (by omega) hnm dB') (SubA.skip o2 (SubA.skip o3 (SubA.skip o4 (SubA.refl _)))) [(b2,Obj.cells #[.slice none 0 0] 23),(b3,Obj.cells #[.int .i64 (AV (Cc s)).1] 24),(b4,Obj.cells #[.int .i64 ((AV (Cc s)).2.1:Nat)] 3)] (SubA.left [_,_,_] _) (Tj o2 o3 o4) ?_ ?_
  ·intro ch D h dD
   exact⟨D++[(b2,Obj.cells #[.slice none 0 0] 23),(b3,Obj.cells #[.int .i64 (AV (Cc s)).1] 24),(b4,Obj.cells #[.int .i64 ((AV (Cc s)).2.1:Nat)] 3)],SubA.refl _,h,dD.right⟩
  ·rintro v' D ⟨u,k,r,A2,v2,B2,g1,g2,g3,g4,g5,g6,g7,hD⟩ dD
   exact⟨_,SubA.front dD hD,u,k,r,A2,v2,B2,g1,g2,g3,g4,g5,g6,g7,⟨hD.none (dD b2 (by simp[Vm.AA])),hD.none (dD b3 (by simp[Vm.AA,h23])),hD.none (dD b4 (by simp[Vm.AA,h24,h34]))⟩,SubA.refl _⟩
 refine Fw (dd:=(⟨[{target:=.fn (.func 16) #[.pointer (some ⟨b2,0,none⟩),.pointer (some ⟨b3,0,none⟩),.pointer (some ⟨b4,0,none⟩)],args:= #[]}],.normal⟩:DefD)) (g:=20) (fs:= #[]) (cs:= #[]) (vs:=[.pointer (some ⟨pb,0,none⟩)]) (f:=.func (.func 20) #[] #[]) hk9 hs9 rfl rfl (by kernel_rfl) (by decide) hcE ?_ ?_
 ·rintro ch A1 w' ⟨⟨e,at_,hFE,rfl⟩,hD⟩ hs10 kp10 rr10
  refine eY (A:=[]) (v2:=.slice none 0 0) (e0:=(AV (Cc s)).1) (a0:=((AV (Cc s)).2.1:Nat)) hk9 rfl rfl rfl h23 h24 h34 (hs10.sub hD) ((kpB.trans kp10).sub hD) (rrB.trans rr10) ?_
  exact⟨_,[],rfl,⟨e,at_,[],none,0,PfE (hE _ _ (.err hk0 hFE)),by simp,by simp,rfl,[],rfl,.inl rfl,fun k u r h=>by simp at h⟩,Dis.nil _,SubA.nil _⟩
 rintro v' A1 a10 w10 ⟨u,k,r,A2,v2,B2,g1,g2,g3,g4,g5,g6,g7,⟨y2,y3,y4⟩,hD⟩ hk10 hs10 kp10 rr10
 have hs10:=hs10.sub hD
 have kp10:=kp10.sub hD
 simp only[Exit.inBlock,Exit.then]
 obtain⟨l1,l2⟩:j<k∧us.length<64:=FuO.lts g1
 exact⟨L.length - k,by omega,k,A2,us++[u],rs++[r],v2,B2,CV.weak (dd:=(⟨[{target:=.fn (.func 16) #[.pointer (some ⟨b2,0,none⟩),.pointer (some ⟨b3,0,none⟩),.pointer (some ⟨b4,0,none⟩)],args:= #[]}],.normal⟩:DefD)) hk10 (by simp only[BW,Ab,Nat.reduceEqDiff,↓reduceIte,reduceCtorEq,Nat.reduceAdd,and_self,and_true]),hs10,kpB.trans kp10,rrB.trans rr10,rfl,g4,g6,g2,by rw[List.map_append,List.map_append,hnm];simp[g3.1],(hall.mono g5).push hlen g3,g7,⟨y2,y3,y4⟩,fun vs m h=>hO _ _ (.step hk0 g1 h),fun e m h=>hE _ _ (.step hk0 g1 h),by simp;omega⟩
end Go.Proofs.YtfphceknmgadgaaGreatDoor
