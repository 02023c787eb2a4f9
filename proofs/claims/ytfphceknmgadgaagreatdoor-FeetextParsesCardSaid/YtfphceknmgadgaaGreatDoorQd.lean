/-
The parser of rules: small functions, the grammar, expressions in memory, products.
Conditions: none.
-/
import Derived.Test.YtfphceknmgadgaaGreatDoorQc
import Derived.Test.YtfphceknmgadgaaGreatDoorQa
set_option linter.unusedSimpArgs false
set_option linter.unusedVariables false
namespace Go.Vm
theorem AZ.useX{P:Program}{g:FuncId}{args:Array Value}{A A0:AH}{X0 X:List PanicEntry→AH→Prop}{K0 K:Value→AH→Prop}(hc:AZ P g args A0 X0 K0)(hs:SubA A0 A)(Y:AH)(hY:SubA Y A)(hd:Dis A0 Y)
  (hx: ∀ch D,X0 ch D→Dis D Y→ ∃A'',SubA A'' D∧X ch (A''++Y)) (hk: ∀v D,K0 v D→Dis D Y→ ∃A'',SubA A'' D∧K v (A''++Y)):AZ P g args A X K:=by
 intro h hA
 have h1:=hc h (hA.sub hs)
 have st: ∀{D A'':AH} {h':AY},DO D h'→Ca A0 h D h'→SubA A'' D→DO (A''++Y) h'∧Ca A h (A''++Y) h':=by
  intro D A'' h' hD kp h2
  refine⟨DO.both (hD.sub h2) fun b o hl=> ?_,kp.1,fun b hb hl=> ?_⟩
  ·have hb:=hA _ _ (hY _ _ hl)
   have hlt:=hA.lt (hY _ _ hl)
   rw[(kp.2 b hlt (hd b (by rw[hl];simp))).1]
   exact hb
  ·obtain⟨q1,q2⟩:=kp.2 b hb (hs.none hl)
   exact⟨q1,AJ (h2.none q2) (hY.none hl)⟩
 have dd: ∀{D:AH} {h':AY},Ca A0 h D h'→Dis D Y:=fun kp x hx=>by
  cases hl:AA Y x with
  |none=>exact absurd hl hx
  |some o=>exact(kp.2 x (hA.lt (hY _ _ hl)) (hd x hx)).2
 have key: ∀e h',cC A0 h X0 K0 e h'→cC A h X K e h':=by
  rintro e h' (⟨v,D,he,hD,kp,hK⟩|⟨ch,D,he,hD,kp,hX⟩)
  ·obtain⟨A'',h2,h3⟩:=hk v D hK (dd kp)
   exact .inl ⟨v,_,he,(st hD kp h2).1,(st hD kp h2).2,h3⟩
  ·obtain⟨A'',h2,h3⟩:=hx ch D hX (dd kp)
   exact .inr ⟨ch,_,he,(st hD kp h2).1,(st hD kp h2).2,h3⟩
 unfold E4 at h1⊢
 split
 ·rename_i hcl
  rw[if_pos hcl]at h1
  exact h1.mono0 key
 ·rename_i hcl
  rw[if_neg hcl]at h1
  intro w hw
  obtain⟨v,w',r1,r2,r3⟩:=h1 w hw
  exact⟨v,w',r1,r2,key _ _ r3⟩
theorem AZ.sub{P:Program}{g:FuncId}{args:Array Value}{A A0:AH}{X:List PanicEntry→AH→Prop}{K:Value→AH→Prop}(hc:AZ P g args A0 X K)(hs:SubA A0 A):AZ P g args A X K:=
 AZ.useX hc hs [] (SubA.nil _) (fun x hx=>absurd rfl hx) (fun v D h _=>⟨D,SubA.refl _,by rw[List.append_nil];exact h⟩) fun v D h _=>⟨D,SubA.refl _,by rw[List.append_nil];exact h⟩
end Go.Vm
namespace Go.Proofs.YtfphceknmgadgaaGreatDoor
open Go.Vm
set_option maxHeartbeats 2000000
set_option maxRecDepth 20000
theorem EA:type_of% (An @BC (An @BU (An @BS (An @Aw (An @BB (An @BT (An @Bn (An @BN (An @CA (An @CS (An @B9 (An @CR (An @Cm (An @CT (An @CC (An @Bp (An @Bq (An @CQ (An @Be (An @Br (An @CB @Bo))))))))))))))))))))):=⟨@BC,@BU,@BS,@Aw,@BB,@BT,@Bn,@BN,@CA,@CS,@B9,@CR,@Cm,@CT,@CC,@Bp,@Bq,@CQ,@Be,@Br,@CB,@Bo⟩
def pB(cb:Nat):Obj:=.cells #[.pointer (some ⟨cb,0,none⟩)] 138
def YE(e at_:Int):List PanicEntry:=[{v:=.iface 136 (.agg #[.int .i64 e,.int .i64 at_]),recovered:=false}]
def PS(pb cb:Nat)(lp:Option Addr)(lcap:Nat)(L:List LR)(i:Nat)(A:AH):AH:=(cb,D2 lp lcap L i)::(pb,pB cb)::A
structure PsOk(pb cb:Nat)(lp:Option Addr)(L:List LR)(A:AH):Prop where
 ne:(pb=cb)=False
 en:(cb=pb)=False
 np:Vm.AA A pb=none
 nc:Vm.AA A cb=none
 hL:ES LR.cells 4 A lp L
 hl:L.length≤100000
 he:Po L
theorem PsOk.far{pb cb:Nat}{lp:Option Addr}{lcap i:Nat}{L:List LR}{A:AH}(hp:PsOk pb cb lp L A){n:Nat}(h:Vm.AA (PS pb cb lp lcap L i A) n=none):(((n=pb)=False)∧((pb=n)=False))∧(((n=cb)=False)∧((cb=n)=False)):=
 ⟨BF h (show Vm.AA (PS pb cb lp lcap L i A) pb=some (pB cb) by simp[PS,Vm.AA,hp.en]),BF h (show Vm.AA (PS pb cb lp lcap L i A) cb=some (D2 lp lcap L i) by simp[PS,Vm.AA])⟩
theorem rK:Tryz.prog.concrete 136=true:=by kernel_rfl
theorem PsOk.base{pb cb:Nat}{lp:Option Addr}{L:List LR}{A:AH}(hp:PsOk pb cb lp L A):Vm.AA ((pb,pB cb)::A) cb=none∧ES LR.cells 4 ((pb,pB cb)::A) lp L:=⟨by simp only[Vm.AA,hp.ne,if_false];exact hp.nc,hp.hL.mono (SubA.skip hp.np (SubA.refl _))⟩
def JS(s:ByteArray):Bool:=decide (s.toList=ByteArray.toList ⟨#[114,117,108,101]⟩)||decide (s.toList=ByteArray.toList ⟨#[119,104,101,110]⟩)||decide (s.toList=ByteArray.toList ⟨#[115,99,111,114,101]⟩)||decide (s.toList=ByteArray.toList ⟨#[112,97,115,115]⟩)||decide (s.toList=ByteArray.toList ⟨#[114,101,102,101,114]⟩)||decide (s.toList=ByteArray.toList ⟨#[100,101,99,108,105,110,101]⟩)||decide (s.toList=ByteArray.toList ⟨#[97,110,100]⟩)||decide (s.toList=ByteArray.toList ⟨#[111,114]⟩)||decide (s.toList=ByteArray.toList ⟨#[110,111,116]⟩)||decide (s.toList=ByteArray.toList ⟨#[105,110]⟩)||decide (s.toList=ByteArray.toList ⟨#[99,111,117,110,116]⟩)||decide (s.toList=ByteArray.toList ⟨#[115,117,109]⟩)
theorem LJ(pb cb:Nat)(lp:Option Addr)(lcap:Nat)(L:List LR)(A:AH)(hp:PsOk pb cb lp L A)(i:Nat)(x:LR)(hx:L[i]? =some x)(e:Int):AZ Tryz.prog 132 #[.pointer (some ⟨pb,0,none⟩),.int .i64 e] (PS pb cb lp lcap L i A) (fun ch D=>ch=YE e (x.a:Int)∧SubA (PS pb cb lp lcap L i A) D) (fun u_ A_=>False):=by
 refine Bb ⟨Tryz.prog,132,Tryz.f132,13,[0,1],⟨[],some (fun ch D=>ch=YE e (x.a:Int)∧SubA (PS pb cb lp lcap L i A) D)⟩,[],_⟩ rfl (args:=[_,_]) Tryz.func132 rfl (by kernel_rfl) Tryz.ntmps132 (by simp) (by kernel_rfl) ?_
 intro ν fr;have nuE:=fr.nu
 have pk:=LG ((pb,pB cb)::A) cb L lp lcap hp.base.1 hp.base.2 i x hx
 simp only[PS,pB,Dl,YE]at pk⊢
 simp (maxDischargeDepth:=16) only[AX,↓AW,simprocAttr,forall_const,nuE,fr.2,EA,pk,rK,hp.en,hp.ne]
def Er(pb cb:Nat)(lp:Option Addr)(lcap:Nat)(L:List LR)(A:AH)(e:Int)(j:Nat)(ch:List PanicEntry)(D:AH):Prop:= ∃x,L[j]? =some x∧ch=YE e (x.a:Int)∧SubA (PS pb cb lp lcap L j A) D
theorem Ju(pb cb:Nat)(lp:Option Addr)(lcap:Nat)(L:List LR)(A:AH)(hp:PsOk pb cb lp L A)(i:Nat)(x:LR)(hx:L[i]? =some x)(t:ByteArray)(h:BX x 1 t=true):AM Tryz.prog 134 #[.pointer (some ⟨cb,0,none⟩),.string t] ((cb,D2 lp lcap L i)::(pb,.cells #[.pointer (some ⟨cb,0,none⟩)] 138)::A) fun u D=>u=.bool true∧SubA ((cb,D2 lp lcap L (X7 L i))::(pb,.cells #[.pointer (some ⟨cb,0,none⟩)] 138)::A) D:=by
 have:=VT ((pb,pB cb)::A) cb L lp lcap hp.base.1 hp.base.2 hp.hl i x hx t
 rw[h]at this
 simpa only[pB,if_true,Bool.false_eq_true,if_false]using this
theorem J2(pb cb:Nat)(lp:Option Addr)(lcap:Nat)(L:List LR)(A:AH)(hp:PsOk pb cb lp L A)(i:Nat)(x:LR)(hx:L[i]? =some x)(t:ByteArray)(h:BX x 1 t=false):AM Tryz.prog 134 #[.pointer (some ⟨cb,0,none⟩),.string t] ((cb,D2 lp lcap L i)::(pb,.cells #[.pointer (some ⟨cb,0,none⟩)] 138)::A) fun u D=>u=.bool false∧SubA ((cb,D2 lp lcap L i)::(pb,.cells #[.pointer (some ⟨cb,0,none⟩)] 138)::A) D:=by
 have:=VT ((pb,pB cb)::A) cb L lp lcap hp.base.1 hp.base.2 hp.hl i x hx t
 rw[h]at this
 simpa only[pB,if_true,Bool.false_eq_true,if_false]using this
theorem FV(pb cb:Nat)(lp:Option Addr)(lcap:Nat)(L:List LR)(A:AH)(hp:PsOk pb cb lp L A)(i:Nat)(x:LR)(hx:L[i]? =some x)(t:ByteArray)(h:BX x 4 t=true):AM Tryz.prog 157 #[.pointer (some ⟨cb,0,none⟩),.string t] ((cb,D2 lp lcap L i)::(pb,.cells #[.pointer (some ⟨cb,0,none⟩)] 138)::A) fun u D=>u=.bool true∧SubA ((cb,D2 lp lcap L (X7 L i))::(pb,.cells #[.pointer (some ⟨cb,0,none⟩)] 138)::A) D:=by
 have:=Pl ((pb,pB cb)::A) cb L lp lcap hp.base.1 hp.base.2 hp.hl i x hx t
 rw[h]at this
 simpa only[pB,if_true,Bool.false_eq_true,if_false]using this
theorem FU(pb cb:Nat)(lp:Option Addr)(lcap:Nat)(L:List LR)(A:AH)(hp:PsOk pb cb lp L A)(i:Nat)(x:LR)(hx:L[i]? =some x)(t:ByteArray)(h:BX x 4 t=false):AM Tryz.prog 157 #[.pointer (some ⟨cb,0,none⟩),.string t] ((cb,D2 lp lcap L i)::(pb,.cells #[.pointer (some ⟨cb,0,none⟩)] 138)::A) fun u D=>u=.bool false∧SubA ((cb,D2 lp lcap L i)::(pb,.cells #[.pointer (some ⟨cb,0,none⟩)] 138)::A) D:=by
 have:=Pl ((pb,pB cb)::A) cb L lp lcap hp.base.1 hp.base.2 hp.hl i x hx t
 rw[h]at this
 simpa only[pB,if_true,Bool.false_eq_true,if_false]using this
theorem Gs(pb cb:Nat)(lp:Option Addr)(lcap:Nat)(L:List LR)(A:AH)(hp:PsOk pb cb lp L A)(i:Nat)(x:LR)(hx:L[i]? =some x)(t:ByteArray):AZ Tryz.prog 162 #[.pointer (some ⟨pb,0,none⟩),.string t] (PS pb cb lp lcap L i A) (fun ch D=>BX x 4 t=false∧Er pb cb lp lcap L A 2 i ch D) (fun u_ A_=>BX x 4 t=true∧SubA (PS pb cb lp lcap L (X7 L i) A) A_):=by
 refine Bb ⟨Tryz.prog,162,Tryz.f162,13,[0,1],⟨[157,132],some (fun ch D=>BX x 4 t=false∧Er pb cb lp lcap L A 2 i ch D)⟩,[],_⟩ rfl (args:=[_,_]) Tryz.func162 rfl (by kernel_rfl) Tryz.ntmps162 (by simp) (by kernel_rfl) ?_
 intro ν fr;have nuE:=fr.nu
 simp only[PS,pB]
 simp (maxDischargeDepth:=16) only[AX,↓AW,simprocAttr,forall_const,nuE,fr.2,EA,hp.en,hp.ne]
 refine AZ.of (AM.put (Pl ((pb,pB cb)::A) cb L lp lcap hp.base.1 hp.base.2 hp.hl i x hx t) (SubA.refl _) ?_)
 clear nuE fr
 intro ν fr;have nuE:=And.intro (fr.mem (b:=cb) (by simp)) (fr.nu)
 simp only[pB]
 cases hx4:BX x 4 t with
 |true=>simp (maxDischargeDepth:=16) only[AX,↓AW,simprocAttr,forall_const,nuE,fr.2,EA]
 |false=>
  simp (maxDischargeDepth:=16) only[AX,↓AW,simprocAttr,forall_const,nuE,fr.2,EA]
  refine AZ.useX (LJ pb cb lp lcap L A hp i x hx 2) (SubA.refl _) [] (SubA.nil _) (fun x hx=>absurd rfl hx) (fun ch D ⟨h1,h2⟩ _=>⟨_,h2,⟨x,hx,h1,by rw[List.append_nil];exact SubA.refl _⟩⟩) (fun v D h _=>h.elim)
theorem nC(s:ByteArray):AM Tryz.prog 153 #[.string s] [] (fun u_ _=>u_=.bool (JS s)):=by
 refine AR ⟨Tryz.prog,153,Tryz.f153,17,[0,2,3],⟨[],none⟩,[],_⟩ rfl (args:=[_]) Tryz.func153 rfl (by kernel_rfl) Tryz.ntmps153 (by simp) (by kernel_rfl) ?_
 intro ν fr;have nuE:=fr.nu
 simp (maxDischargeDepth:=16) only[AX,↓AW,simprocAttr,forall_const,nuE,fr.2,EA]
 unfold JS
 repeat' split
 all_goals simp_all
theorem Bx(s:ByteArray)(A_:AH):B5 Tryz.prog 153 #[.string s] A_=some (.bool (JS s)):=Bk (CN (by kernel_rfl) (nC s))
def FA(x:LR):Bool:=decide (x.k=1)&& !(JS x.t)
theorem fy(pb cb:Nat)(lp:Option Addr)(lcap:Nat)(L:List LR)(A:AH)(hp:PsOk pb cb lp L A)(i:Nat)(x:LR)(hx:L[i]? =some x):AZ Tryz.prog 171 #[.pointer (some ⟨pb,0,none⟩)] (PS pb cb lp lcap L i A) (fun ch D=>FA x=false∧Er pb cb lp lcap L A 2 i ch D) (fun u_ A_=>FA x=true∧u_=.string x.t∧SubA (PS pb cb lp lcap L i A) A_):=by
 refine Bb ⟨Tryz.prog,171,Tryz.f171,21,[0,2,3],⟨[132],some (fun ch D=>FA x=false∧Er pb cb lp lcap L A 2 i ch D)⟩,[],_⟩ rfl (args:=[_]) Tryz.func171 rfl (by kernel_rfl) Tryz.ntmps171 (by simp) (by kernel_rfl) ?_
 intro ν fr;have nuE:=fr.nu
 have pk:=LG ((pb,pB cb)::A) cb L lp lcap hp.base.1 hp.base.2 i x hx
 simp only[PS,pB,Dl]at pk⊢
 have ab: ∀{Y:AH},SubA (PS pb cb lp lcap L i A) Y→FA x=false→AZ Tryz.prog 132 #[.pointer (some ⟨pb,0,none⟩),.int .i64 2] Y (fun ch D=>FA x=false∧Er pb cb lp lcap L A 2 i ch D) fun _ _=>False:=fun hY hn=>
  AZ.useX (LJ pb cb lp lcap L A hp i x hx 2) hY [] (SubA.nil _) (fun x hx=>absurd rfl hx) (fun ch D ⟨h1,h2⟩ _=>⟨_,h2,hn,⟨x,hx,h1,by rw[List.append_nil];exact SubA.refl _⟩⟩) (fun v D h _=>h.elim)
 have f0:=fr.2 0
 have s0: ∀o,SubA (PS pb cb lp lcap L i A) ((ν 0,o)::PS pb cb lp lcap L i A):=fun o=>SubA.skip f0 (SubA.refl _)
 by_cases h1:x.k=1
 ·cases hr:JS x.t with
  |false=>
   have hn:FA x=true:=by simp[FA,h1,hr]
   simp (maxDischargeDepth:=16) only[AX,↓AW,simprocAttr,forall_const,nuE,fr.2,EA,Bx,pk,hp.en,hp.ne,h1,hr]
   exact⟨hn,s0 _⟩
  |true=>
   have hn:FA x=false:=by simp[FA,h1,hr]
   simp (maxDischargeDepth:=16) only[AX,↓AW,simprocAttr,forall_const,nuE,fr.2,EA,Bx,pk,hp.en,hp.ne,h1,hr]
   exact(ab (s0 _) hn).mono (fun _ _ h=>h) fun _ _ h=>h.elim
 ·have hn:FA x=false:=by simp[FA,h1]
  have e1:(x.k !=1)=true:=by simp[h1]
  simp (maxDischargeDepth:=16) only[AX,↓AW,simprocAttr,forall_const,nuE,fr.2,EA,Bx,pk,hp.en,hp.ne,e1,eq_false h1]
  exact(ab (s0 _) hn).mono (fun _ _ h=>h) fun _ _ h=>h.elim
theorem AZ.at_{P:Program}{g:FuncId}{args:Array Value}{A A0:AH}{X0 X:List PanicEntry→AH→Prop}{K0 K:Value→AH→Prop}(hc:AZ P g args A0 X0 K0)(hs:SubA A0 A)(hx: ∀ch D,X0 ch D→X ch D)(hk: ∀v D,K0 v D→K v D):AZ P g args A X K:=(AZ.sub hc hs).mono hx hk
theorem XM(pb cb:Nat)(lp:Option Addr)(lcap:Nat)(L:List LR)(A:AH)(hp:PsOk pb cb lp L A)(i:Nat)(x:LR)(hx:L[i]? =some x):AZ Tryz.prog 168 #[.pointer (some ⟨pb,0,none⟩)] (PS pb cb lp lcap L i A) (fun ch D=>FA x=false∧Er pb cb lp lcap L A 2 i ch D) (fun u_ A_=>FA x=true∧u_=.string x.t∧SubA (PS pb cb lp lcap L (X7 L i) A) A_):=by
 refine Bb ⟨Tryz.prog,168,Tryz.f168,11,[0,2],⟨[171,159],some (fun ch D=>FA x=false∧Er pb cb lp lcap L A 2 i ch D)⟩,[],_⟩ rfl (args:=[_]) Tryz.func168 rfl (by kernel_rfl) Tryz.ntmps168 (by simp) (by kernel_rfl) ?_
 intro ν fr;have nuE:=fr.nu
 simp (maxDischargeDepth:=16) only[AX,↓AW,simprocAttr,forall_const,nuE,fr.2,EA,Bx]
 refine AZ.useX (fy pb cb lp lcap L A hp i x hx) (SubA.refl _) [] (SubA.nil _) (fun x hx=>absurd rfl hx) (fun ch D ⟨h1,y,h2,h3,h4⟩ _=>⟨_,h4,h1,⟨y,h2,h3,by rw[List.append_nil];exact SubA.refl _⟩⟩) ?_
 rintro v D ⟨hn,rfl,hD⟩ _
 refine⟨PS pb cb lp lcap L i A,hD, ?_⟩
 rw[List.append_nil]
 clear nuE fr
 intro ν fr;have nuE:=fr.nu
 simp only[PS,pB]
 simp (maxDischargeDepth:=16) only[AX,↓AW,simprocAttr,forall_const,nuE,fr.2,EA,Bx,hp.en,hp.ne]
 refine AZ.of (AM.put (Ht ((pb,pB cb)::A) cb L lp lcap hp.base.1 hp.base.2 hp.hl i x hx) (SubA.refl _) ?_)
 clear nuE fr
 intro ν fr;have nuE:=And.intro (fr.mem (b:=cb) (by simp)) (fr.nu)
 simp only[pB,Dl]
 simp (maxDischargeDepth:=16) only[AX,↓AW,simprocAttr,forall_const,nuE,fr.2,EA,Bx]
 exact hn
def F9(x:LR)(most:Int):Bool:=decide (x.k=2)&&decide (x.n≤most)
theorem nb(pb cb:Nat)(lp:Option Addr)(lcap:Nat)(L:List LR)(A:AH)(hp:PsOk pb cb lp L A)(i:Nat)(x:LR)(hx:L[i]? =some x)(most:Int):AZ Tryz.prog 170 #[.pointer (some ⟨pb,0,none⟩),.int .i64 most] (PS pb cb lp lcap L i A) (fun ch D=>F9 x most=false∧Er pb cb lp lcap L A 2 i ch D) (fun u_ A_=>F9 x most=true∧u_=.int .i64 x.n∧SubA (PS pb cb lp lcap L (X7 L i) A) A_):=by
 refine Bb ⟨Tryz.prog,170,Tryz.f170,28,[0,1,4,5],⟨[132,159],some (fun ch D=>F9 x most=false∧Er pb cb lp lcap L A 2 i ch D)⟩,[],_⟩ rfl (args:=[_,_]) Tryz.func170 rfl (by kernel_rfl) Tryz.ntmps170 (by simp) (by kernel_rfl) ?_
 intro ν fr;have nuE:=fr.nu
 have pk:=LG ((pb,pB cb)::A) cb L lp lcap hp.base.1 hp.base.2 i x hx
 simp only[PS,pB,Dl]at pk⊢
 have ab: ∀{Y:AH},SubA (PS pb cb lp lcap L i A) Y→F9 x most=false→AZ Tryz.prog 132 #[.pointer (some ⟨pb,0,none⟩),.int .i64 2] Y (fun ch D=>F9 x most=false∧Er pb cb lp lcap L A 2 i ch D) fun _ _=>False:=fun hY hn=>
  AZ.useX (LJ pb cb lp lcap L A hp i x hx 2) hY [] (SubA.nil _) (fun x hx=>absurd rfl hx) (fun ch D ⟨h1,h2⟩ _=>⟨_,h2,hn,⟨x,hx,h1,by rw[List.append_nil];exact SubA.refl _⟩⟩) (fun v D h _=>h.elim)
 have f0:=fr.2 0
 have s0: ∀o,SubA (PS pb cb lp lcap L i A) ((ν 0,o)::PS pb cb lp lcap L i A):=fun o=>SubA.skip f0 (SubA.refl _)
 by_cases h1:x.k=2
 ·by_cases h2:most<x.n
  ·have hn:F9 x most=false:=by simp[F9,h1];omega
   simp (maxDischargeDepth:=16) only[AX,↓AW,simprocAttr,forall_const,nuE,fr.2,EA,Bx,pk,hp.en,hp.ne,h1,eq_true h2]
   exact(ab (s0 _) hn).mono (fun _ _ h=>h) fun _ _ h=>h.elim
  ·have hn:F9 x most=true:=by simp[F9,h1];omega
   obtain⟨⟨m1,m2⟩,m3,m4⟩:=hp.far f0
   simp (maxDischargeDepth:=16) only[AX,↓AW,simprocAttr,forall_const,nuE,fr.2,EA,Bx,pk,hp.en,hp.ne,h1,eq_false h2,m1,m2,m3,m4]
   refine AZ.of (AM.put (Ht ((pb,pB cb)::A) cb L lp lcap hp.base.1 hp.base.2 hp.hl i x hx) (s0 _) ?_)
   clear nuE fr s0 f0
   intro ν fr;have nuE:=And.intro (fr.mem (b:=cb) (by simp)) (fr.nu)
   simp only[pB,Dl]
   simp (maxDischargeDepth:=16) only[AX,↓AW,simprocAttr,forall_const,nuE,fr.2,EA,Bx]
   exact hn
 ·have hn:F9 x most=false:=by simp[F9,h1]
  have e1:(x.k !=2)=true:=by simp[h1]
  simp (maxDischargeDepth:=16) only[AX,↓AW,simprocAttr,forall_const,nuE,fr.2,EA,Bx,pk,hp.en,hp.ne,e1,eq_false h1]
  exact(ab (s0 _) hn).mono (fun _ _ h=>h) fun _ _ h=>h.elim
end Go.Proofs.YtfphceknmgadgaaGreatDoor
namespace Go.Proofs.YtfphceknmgadgaaGreatDoor
open Go.Vm
set_option maxHeartbeats 2000000
set_option maxRecDepth 20000
inductive Xs where
 |mk (op:Int) (nm tx:ByteArray) (n:Int) (args:List Xs)
inductive Rz where
 |ok (t:Xs) (j:Nat)
 |er (e:Int) (j:Nat)
inductive Qr where
 |lv (l:Nat)
 |lp (l:Nat) (t:Xs)
 |ch (xs:List Xs)
def eB:ByteArray:=⟨#[]⟩
def Hs(l:Nat)(x:LR):Option Int:=
 if l=0 then(if BX x 1 ⟨#[111,114]⟩=true then some 7 else none)
 else if l=1 then(if BX x 1 ⟨#[97,110,100]⟩=true then some 6 else none)
 else if l=3 then(if BX x 4 ⟨#[43]⟩=true then some 12 else if BX x 4 ⟨#[45]⟩=true then some 13 else none)
 else if BX x 4 ⟨#[42]⟩=true then some 14 else none
def Hf(x:LR):Option Int:=if BX x 4 ⟨#[61]⟩=true then some 8 else if BX x 4 ⟨#[33,61]⟩=true then some 9 else if BX x 4 ⟨#[60]⟩=true then some 10 else if BX x 4 ⟨#[60,61]⟩=true then some 11 else none
def W4(x:LR):Bool:=BX x 1 ⟨#[105,110]⟩
def Ee(o:Int)(a b:Xs):Xs:=.mk o eB eB 0 [a,b]
def UB(o:Int)(a:Xs):Xs:=.mk o eB eB 0 [a]
inductive Uc where
 |one (o:Int)
 |use (o:Int)
 |par
 |num
 |txt
 |nam
 |bad
def EW(x:LR):Uc:=
 if BX x 1 ⟨#[110,111,116]⟩=true then .one 4 else if BX x 4 ⟨#[45]⟩=true then .one 5 else if BX x 1 ⟨#[99,111,117,110,116]⟩=true then .use 16 else if BX x 1 ⟨#[115,117,109]⟩=true then .use 17
 else if BX x 4 ⟨#[40]⟩=true then .par else if x.k=2 then .num else if x.k=3 then .txt else if FA x=true then .nam else .bad
def GK(L:List LR)(i:Nat):Int×Nat×ByteArray×Int:=
 if BX (BR L i) 4 ⟨#[40]⟩=false then(2,i,eB,0)else if FA (BR L (i+1))=false then(2,i+1,eB,0)else if BX (BR L (i+2)) 4 ⟨#[44]⟩=false then(2,i+2,eB,0)else if F9 (BR L (i+3)) 9007199254740992=false then(2,i+3,eB,0)
 else if BX (BR L (i+4)) 4 ⟨#[41]⟩=false then(2,i+4,eB,0)else(0,i+5,(BR L (i+1)).t,(BR L (i+3)).n)
inductive Pr (L:List LR):Qr→Nat→Rz→Prop where
 |opE {l i j:Nat} {e:Int}:l≠2→l<5→Pr L (.lv (l+1)) i (.er e j)→Pr L (.lv l) i (.er e j)
 |opO {l i j:Nat} {t:Xs} {r:Rz}:l≠2→l<5→Pr L (.lv (l+1)) i (.ok t j)→Pr L (.lp l t) j r→Pr L (.lv l) i r
 |lpN {l j:Nat} {t:Xs}:Hs l (BR L j)=none→Pr L (.lp l t) j (.ok t j)
 |lpE {l j k:Nat} {t:Xs} {o e:Int}:Hs l (BR L j)=some o→Pr L (.lv (l+1)) (j+1) (.er e k)→Pr L (.lp l t) j (.er e k)
 |lpO {l j k:Nat} {t u:Xs} {o:Int} {r:Rz}:Hs l (BR L j)=some o→Pr L (.lv (l+1)) (j+1) (.ok u k)→Pr L (.lp l (Ee o t u)) k r→Pr L (.lp l t) j r
 |cmE {i j:Nat} {e:Int}:Pr L (.lv 3) i (.er e j)→Pr L (.lv 2) i (.er e j)
 |cmN {i j:Nat} {t:Xs}:Pr L (.lv 3) i (.ok t j)→Hf (BR L j)=none→W4 (BR L j)=false→Pr L (.lv 2) i (.ok t j)
 |cmF {i j k:Nat} {t:Xs} {o e:Int}:Pr L (.lv 3) i (.ok t j)→Hf (BR L j)=some o→Pr L (.lv 3) (j+1) (.er e k)→Pr L (.lv 2) i (.er e k)
 |cmO {i j k:Nat} {t u:Xs} {o:Int}:Pr L (.lv 3) i (.ok t j)→Hf (BR L j)=some o→Pr L (.lv 3) (j+1) (.ok u k)→Pr L (.lv 2) i (.ok (Ee o t u) k)
 |inP {i j:Nat} {t:Xs}:Pr L (.lv 3) i (.ok t j)→Hf (BR L j)=none→W4 (BR L j)=true→BX (BR L (j+1)) 4 ⟨#[40]⟩=false→Pr L (.lv 2) i (.er 2 (j+1))
 |inC {i j:Nat} {t:Xs} {r:Rz}:Pr L (.lv 3) i (.ok t j)→Hf (BR L j)=none→W4 (BR L j)=true→BX (BR L (j+1)) 4 ⟨#[40]⟩=true→Pr L (.ch [t]) (j+2) r→Pr L (.lv 2) i r
 |chE {i j:Nat} {xs:List Xs} {e:Int}:Pr L (.lv 3) i (.er e j)→Pr L (.ch xs) i (.er e j)
 |chM {i j:Nat} {xs:List Xs} {u:Xs} {r:Rz}:Pr L (.lv 3) i (.ok u j)→BX (BR L j) 4 ⟨#[44]⟩=true→Pr L (.ch (xs++[u])) (j+1) r→Pr L (.ch xs) i r
 |chO {i j:Nat} {xs:List Xs} {u:Xs}:Pr L (.lv 3) i (.ok u j)→BX (BR L j) 4 ⟨#[44]⟩=false→BX (BR L j) 4 ⟨#[41]⟩=true→Pr L (.ch xs) i (.ok (.mk 15 eB eB 0 (xs++[u])) (j+1))
 |chB {i j:Nat} {xs:List Xs} {u:Xs}:Pr L (.lv 3) i (.ok u j)→BX (BR L j) 4 ⟨#[44]⟩=false→BX (BR L j) 4 ⟨#[41]⟩=false→Pr L (.ch xs) i (.er 2 j)
 |unO {i j:Nat} {t:Xs} {o:Int}:EW (BR L i)=.one o→Pr L (.lv 5) (i+1) (.ok t j)→Pr L (.lv 5) i (.ok (UB o t) j)
 |unE {i j:Nat} {o e:Int}:EW (BR L i)=.one o→Pr L (.lv 5) (i+1) (.er e j)→Pr L (.lv 5) i (.er e j)
 |usO {i j:Nat} {o n:Int} {nm:ByteArray}:EW (BR L i)=.use o→GK L (i+1)=(0,j,nm,n)→Pr L (.lv 5) i (.ok (.mk o nm eB n []) j)
 |usE {i j:Nat} {o e n:Int} {nm:ByteArray}:EW (BR L i)=.use o→GK L (i+1)=(e,j,nm,n)→e≠0→Pr L (.lv 5) i (.er e j)
 |paE {i j:Nat} {e:Int}:EW (BR L i)=.par→Pr L (.lv 0) (i+1) (.er e j)→Pr L (.lv 5) i (.er e j)
 |paO {i j:Nat} {t:Xs}:EW (BR L i)=.par→Pr L (.lv 0) (i+1) (.ok t j)→BX (BR L j) 4 ⟨#[41]⟩=true→Pr L (.lv 5) i (.ok t (j+1))
 |paB {i j:Nat} {t:Xs}:EW (BR L i)=.par→Pr L (.lv 0) (i+1) (.ok t j)→BX (BR L j) 4 ⟨#[41]⟩=false→Pr L (.lv 5) i (.er 2 j)
 |nu {i:Nat}:EW (BR L i)=.num→Pr L (.lv 5) i (.ok (.mk 1 eB eB (BR L i).n []) (i+1))
 |te {i:Nat}:EW (BR L i)=.txt→Pr L (.lv 5) i (.ok (.mk 2 eB (BR L i).t 0 []) (i+1))
 |na {i:Nat}:EW (BR L i)=.nam→Pr L (.lv 5) i (.ok (.mk 3 (BR L i).t eB 0 []) (i+1))
 |ba {i:Nat}:EW (BR L i)=.bad→Pr L (.lv 5) i (.er 2 i)
theorem Pr.det{L:List LR}{q:Qr}{i:Nat}{r:Rz}(h:Pr L q i r): ∀{r':Rz},Pr L q i r'→r=r':=by
 induction h<;>intro r' h'<;>cases h'<;>first|rfl|(exfalso;omega)|grind
end Go.Proofs.YtfphceknmgadgaaGreatDoor
namespace Go.Proofs.YtfphceknmgadgaaGreatDoor
open Go.Vm
set_option maxHeartbeats 2000000
set_option maxRecDepth 20000
structure Xr where
 op:Int
 nm:ByteArray
 tx:ByteArray
 n:Int
 p:Option Addr
 len:Nat
 cap:Nat
def Ck(r:Xr):List Value:=[.int .i64 r.op,.string r.nm,.string r.tx,.int .i64 r.n,.slice r.p r.len r.cap]
theorem fo(r:Xr):(Ck r).length=5:=rfl
def C5(r:Xr):Value:=.agg (Ck r).toArray
inductive ExR (A:AH):Xs→Xr→Prop where
 |mk {op n:Int} {nm tx:ByteArray} {args:List Xs} {p:Option Addr} {cap:Nat} {rs:List Xr}:args.length≤140737488355328→args.length≤cap→rs.length=args.length→ES Ck 5 A p rs→(∀(k:Nat) (x:Xs) (r:Xr),args[k]? =some x→rs[k]? =some r→ExR A x r)→ExR A (.mk op nm tx n args) ⟨op,nm,tx,n,p,args.length,cap⟩
theorem ExR.mono{A B:AH}{t:Xs}{r:Xr}(h:ExR A t r)(hs:SubA A B):ExR B t r:=by
 induction h with
 |mk h0 h0' h1 h2 h3 ih=>exact .mk h0 h0' h1 (h2.mono hs) fun k x r hx hr=>ih k x r hx hr
theorem ExR.leaf(A:AH)(op n:Int)(nm tx:ByteArray)(p:Option Addr)(cap:Nat):ExR A (.mk op nm tx n []) ⟨op,nm,tx,n,p,0,cap⟩:=.mk (rs:=[]) (by simp) (by simp) rfl (.inl rfl) fun k x r hx=>by simp at hx
def nh(A:AH)(p:Option Addr)(L:List Xr)(cap:Nat):Prop:=L.length≤cap∧ES Ck 5 A p L
theorem nh.mono{A B:AH}{p:Option Addr}{L:List Xr}{cap:Nat}(h:nh A p L cap)(hs:SubA A B):nh B p L cap:=⟨h.1,h.2.mono hs⟩
theorem qp:Cy Tryz.prog 34 0 []=some (36,#[]):=by kernel_rfl
theorem dk(A:AH)(L:List Xr)(p:Option Addr)(cap:Nat)(hL:ES Ck 5 A p L)(hl:L.length≤1000000):AM Tryz.prog 150 #[.slice p L.length cap] A (fun u_ A_=> ∃v B,u_=v∧Cq Ck 5 36 v B L∧Dis B A∧SubA (B++A) A_):=by
 refine AR ⟨Tryz.prog,150,Tryz.f150,8,[0,2],⟨[],none⟩,[],_⟩ rfl (args:=[_]) Tryz.func150 rfl (by kernel_rfl) Tryz.ntmps150 (by simp) (by kernel_rfl) ?_
 intro ν fr;have nuE:=fr.nu
 cases p with
 | none=>
  have hn:L=[]:=by
   rcases hL with h|⟨b,off,cs,e,fr,h1,_⟩
   ·exact h
   ·cases h1
  simp (maxDischargeDepth:=16) only[AX,↓AW,simprocAttr,forall_const,nuE,fr.2,EA,Bx,Option.isNone_none]
  exact⟨_,[],rfl,by rw[hn];exact Cq.nilp _ _ _ _,Dis.nil _,SubA.refl _⟩
 | some pa=>
  simp (maxDischargeDepth:=16) only[AX,↓AW,simprocAttr,forall_const,nuE,fr.2,EA,Bx,Option.isNone_some,qp]
  have f0:=fr.2 0
  refine Ey (news:=L.flatMap Ck) RL QL rfl (by decide) (Cq.at0 Ck 5 36 (ν 0)) (Ty.sub ⟨by simp[Vm.AA],trivial⟩) (hL.mono (SubA.skip (fr.2 0) (SubA.refl _))).src ?_ (by simp[maxLen];omega) (by simp;omega) ?_
  ·intro u hu
   obtain⟨a,_,ha⟩:=List.mem_flatMap.1 hu
   simp only[Ck,List.mem_cons,List.mem_nil_iff,or_false]at ha
   rcases ha with rfl|rfl|rfl|rfl|rfl<;>rfl
  ·intro v' C ho hb
   have dC:Dis C A:=Ll hb (Dis.one (fr.2 0)) (SubA.skip (fr.2 0) (SubA.refl _))
   intro ν' fr'
   have fr0:=fr
   have fr:=fr'
   simp (maxDischargeDepth:=16) only[AX,↓AW,simprocAttr,forall_const,nuE,EA,Bx]
   exact⟨_,C,rfl,by simpa[Cq]using ho,dC,SubA.app (SubA.fresh f0 (SubA.refl _))⟩
theorem Du(A:AH)(op:Int)(L:List Xr)(p:Option Addr)(cap:Nat)(hL:ES Ck 5 A p L)(hl:L.length≤1000000):AM Tryz.prog 135 #[.int .i64 op,.slice p L.length cap] A (fun u_ A_=> ∃v B,u_=v∧(∃p' c',v=C5 ⟨op,eB,eB,0,p',L.length,c'⟩∧nh B p' L c')∧Dis B A∧SubA (B++A) A_):=by
 refine AR ⟨Tryz.prog,135,Tryz.f135,9,[0,1,4],⟨[150],none⟩,[],_⟩ rfl (args:=[_,_]) Tryz.func135 rfl (by kernel_rfl) Tryz.ntmps135 (by simp) (by kernel_rfl) ?_
 intro ν fr;have nuE:=fr.nu
 have f0:=fr.2 0
 simp (maxDischargeDepth:=16) only[AX,↓AW,simprocAttr,forall_const,nuE,fr.2,EA,Bx]
 have dst_:True:=(by simp[nuE]);generalize ν 0=n4 at dst_  f0⊢
 clear nuE fr dst_
 refine AM.newX (dk A L p cap hL hl) (SubA.fresh f0 (SubA.refl _)) ?_
 rintro v B ho hd
 have hn:Vm.AA B n4=none:=hd n4 (by simp[Vm.AA])
 have hd2:Dis B A:=Dis.subr hd (SubA.fresh f0 (SubA.refl _))
 refine⟨_,bw hn, ?_⟩
 obtain⟨p',c',rfl,h1,h2⟩:=Cq.read (f:=Ck) (n:=5) (fun x=>rfl) ho
 have g0:Vm.AA (B++A) n4=none:=AJ hn f0
 intro ν fr;have nuE:=fr.nu
 simp (maxDischargeDepth:=16) only[AX,↓AW,simprocAttr,forall_const,nuE,fr.2,EA,Bx]
 exact⟨_,B,rfl,⟨p',c',rfl,h1,h2⟩,hd2,SubA.fresh g0 (SubA.refl _)⟩
end Go.Proofs.YtfphceknmgadgaaGreatDoor
namespace Go.Vm
theorem SubA.front{D E Y:AH}(hd:Dis D Y)(hs:SubA E D):SubA (Y++E) (D++Y):=fun b o hl=>by
 rw[By]at hl⊢
 cases hy:AA Y b with
 |none=>
  rw[hy]at hl
  rw[hs b o hl]
 |some u=>
  rw[hy]at hl
  cases hl
  rw[hd b (by rw[hy];simp)]
theorem AZ.to{P:Program}{g:FuncId}{args:Array Value}{A A0:AH}{X0 X:List PanicEntry→AH→Prop}{K0 K:Value→AH→Prop}(hc:AZ P g args A0 X0 K0)(hs:SubA A0 A)(Y:AH)(hY:SubA Y A)(hd:Dis A0 Y)
  (hx: ∀ch D,X0 ch D→Dis D Y→ ∃M,SubA M (D++Y)∧X ch M) (hk: ∀v D,K0 v D→Dis D Y→ ∃M,SubA M (D++Y)∧K v M):AZ P g args A X K:=by
 refine AZ.sub (A0:=A) ?_ (SubA.refl A)
 have h1:AZ P g args A (fun ch D'=> ∃D,D'=D++Y∧X0 ch D∧Dis D Y) (fun v D'=> ∃D,D'=D++Y∧K0 v D∧Dis D Y):=
  AZ.useX hc hs Y hY hd (fun ch D h dD=>⟨D,SubA.refl _,D,rfl,h,dD⟩) (fun v D h dD=>⟨D,SubA.refl _,D,rfl,h,dD⟩)
 exact AZ.useX h1 (SubA.refl A) [] (SubA.nil _) (fun x hx=>absurd rfl hx)
  (fun ch D' ⟨D,he,h,dD⟩ _=>by
   obtain⟨M,m1,m2⟩:=hx ch D h dD
   exact⟨M,by rw[he];exact m1,by rw[List.append_nil];exact m2⟩)
  (fun v D' ⟨D,he,h,dD⟩ _=>by
   obtain⟨M,m1,m2⟩:=hk v D h dD
   exact⟨M,by rw[he];exact m1,by rw[List.append_nil];exact m2⟩)
end Go.Vm
namespace Go.Proofs.YtfphceknmgadgaaGreatDoor
open Go.Vm
set_option maxHeartbeats 4000000
set_option maxRecDepth 20000
def fX(pb cb:Nat)(lp:Option Addr)(lcap:Nat)(L:List LR)(A:AH)(q:Rz→Prop)(u:Value)(D:AH):Prop:= ∃t j r A',q (.ok t j)∧u=C5 r∧ExR A' t r∧j<L.length∧SubA A A'∧PsOk pb cb lp L A'∧SubA (PS pb cb lp lcap L j A') D
def K8(L:List LR)(A:AH)(q:Rz→Prop)(ch:List PanicEntry)(D:AH):Prop:= ∃e j x,e≠0∧q (.er e j)∧L[j]? =some x∧ch=YE e (x.a:Int)∧SubA A D
def K4(f:FuncId)(l:Nat)(pb cb:Nat)(lp:Option Addr)(lcap:Nat)(L:List LR)(A:AH)(i:Nat):Prop:=AZ Tryz.prog f #[.pointer (some ⟨pb,0,none⟩)] (PS pb cb lp lcap L i A) (K8 L A (Pr L (.lv l) i)) (fX pb cb lp lcap L A (Pr L (.lv l) i))
theorem K8.mono{L:List LR}{A A':AH}{q q':Rz→Prop}{ch:List PanicEntry}{D:AH}(h:K8 L A' q ch D)(hs:SubA A A')(hq: ∀e j,q (.er e j)→q' (.er e j)):K8 L A q' ch D:=by
 obtain⟨e,j,x,h1,h2,h3,h4,h5⟩:=h
 exact⟨e,j,x,h1,hq e j h2,h3,h4,SubA.trans hs h5⟩
theorem K8.at{L:List LR}{A:AH}{q:Rz→Prop}{ch:List PanicEntry}{D D':AH}(h:K8 L A q ch D)(hs:SubA D D'):K8 L A q ch D':=by
 obtain⟨e,j,x,h1,h2,h3,h4,h5⟩:=h
 exact⟨e,j,x,h1,h2,h3,h4,SubA.trans h5 hs⟩
theorem DP{L:List LR}(he:Po L){j:Nat}{x:LR}(hx:L[j]? =some x)(hk:x.k≠0):X7 L j=j+1∧j+1<L.length:=by
 have h1:=he j x hx hk
 exact⟨by unfold X7;rw[if_pos h1],h1⟩
theorem Bw{L:List LR}{j:Nat}(h:j<L.length): ∃x,L[j]? =some x∧BR L j=x:=⟨_,List.getElem?_eq_getElem h,Ez (List.getElem?_eq_getElem h)⟩
theorem F5(a b c d e a' b' c' d' e':Value):Cy Tryz.prog 34 2 [(0,.agg #[a,b,c,d,e]),(1,.agg #[a',b',c',d',e'])]=some (36,#[a,b,c,d,e,a',b',c',d',e']):=by kernel_rfl
theorem dis2{E:AH}{a b:Nat}{o u:Obj}(ha:Vm.AA E a=none)(hb:Vm.AA E b=none):Dis E [(a,o),(b,u)]:=fun x hx=>by
 simp only[Vm.AA]at hx
 by_cases h1:a=x
 ·rw[←h1];exact ha
 ·rw[if_neg h1]at hx
  by_cases h2:b=x
  ·rw[←h2];exact hb
  ·rw[if_neg h2]at hx;exact absurd rfl hx
theorem Ao{pb cb:Nat}{lp:Option Addr}{lcap:Nat}{L:List LR}{j j':Nat}{A:AH}{n:Nat}(h:Vm.AA (PS pb cb lp lcap L j A) n=none):Vm.AA (PS pb cb lp lcap L j' A) n=none:=by
 simp only[PS,Vm.AA]at h⊢
 split at h
 ·cases h
 ·rename_i hne;rw[if_neg hne];exact h
theorem m9{L:List LR}{i j:Nat}{e n:Int}{nm:ByteArray}(h:GK L i=(e,j,nm,n)):i≤j:=by
 unfold GK at h
 repeat' split at h
 all_goals (simp only[Prod.mk.injEq]at h;omega)
def Rz.at_:Rz→Nat
 | .ok _ j=>j
 | .er _ j=>j
theorem Pr.le'{L:List LR}{q:Qr}{i:Nat}{r:Rz}(h:Pr L q i r):i≤r.at_:=by
 induction h<;>simp only[Rz.at_]at* <;>first|omega|(have:=m9 ‹_›;omega)
theorem Pr.le{L:List LR}{q:Qr}{i j:Nat}{t:Xs}(h:Pr L q i (.ok t j)):i≤j:=h.le'
theorem ke(b:Nat)(e:TypeId)(T:List Xr)(h:T.length≤1000000):ES Ck 5 [(b,.cells (T.flatMap Ck).toArray e)] (some ⟨b,0,none⟩) T:=by
 have o:Cq Ck 5 e (.slice (some ⟨b,0,none⟩) T.length T.length) [(b,.cells (T.flatMap Ck).toArray e)] T:=.inl (GF.at (by rw[GU Ck 5 (fun _=>rfl)]) (by simp only[maxLen];omega))
 obtain⟨p,cap,h1,h2,h3⟩:=o.read fo
 cases h1
 exact h3
theorem FW(b:Nat)(e:TypeId)(r r':Xr)(M:AH):ES Ck 5 ((b,.cells #[.int .i64 r.op,.string r.nm,.string r.tx,.int .i64 r.n,.slice r.p r.len r.cap,.int .i64 r'.op,.string r'.nm,.string r'.tx,.int .i64 r'.n,.slice r'.p r'.len r'.cap] e)::M) (some ⟨b,0,none⟩) [r,r']:=(ke b e [r,r'] (by simp)).mono (SubA.left [_] _)
theorem Pu(b:Nat)(e:TypeId)(r:Xr)(M:AH):ES Ck 5 ((b,.cells #[.int .i64 r.op,.string r.nm,.string r.tx,.int .i64 r.n,.slice r.p r.len r.cap] e)::M) (some ⟨b,0,none⟩) [r]:=(ke b e [r] (by simp)).mono (SubA.left [_] _)
theorem PsOk.app{pb cb:Nat}{lp:Option Addr}{lcap k:Nat}{L:List LR}{A B M:AH}(hp:PsOk pb cb lp L A)(hd:Dis B M)(hs:SubA (PS pb cb lp lcap L k A) M):PsOk pb cb lp L (A++B):=by
 have d:=Dis.subr hd hs
 exact⟨hp.ne,hp.en,AJ hp.np (d pb (by simp[PS,Vm.AA,hp.en])),AJ hp.nc (d cb (by simp[PS,Vm.AA])),hp.hL.mono (SubA.left _ _),hp.hl,hp.he⟩
theorem nV{pb cb:Nat}{lp:Option Addr}{lcap k:Nat}{L:List LR}{A B M:AH}(hd:Dis B M)(hs:SubA (PS pb cb lp lcap L k A) M):SubA (PS pb cb lp lcap L k (A++B)) (B++M):=by
 have e:PS pb cb lp lcap L k (A++B)=PS pb cb lp lcap L k A++B:=rfl
 rw[e]
 exact SubA.both (SubA.trans hs hd.right) (SubA.left _ _)
theorem ExR.two{A:AH}{t u:Xs}{r s:Xr}{o:Int}{p:Option Addr}{cap:Nat}(ht:ExR A t r)(hu:ExR A u s)(hS:nh A p [r,s] cap):ExR A (Ee o t u) ⟨o,eB,eB,0,p,2,cap⟩:=.mk (args:=[t,u]) (rs:=[r,s]) (by simp) hS.1 rfl hS.2 fun k x y hx hy=>by
 match k with
 |0=>simp at hx hy;subst hx;subst hy;exact ht
 |1=>simp at hx hy;subst hx;subst hy;exact hu
 |k+2=>simp at hx
theorem ExR.one{A:AH}{t:Xs}{r:Xr}{o:Int}{p:Option Addr}{cap:Nat}(ht:ExR A t r)(hS:nh A p [r] cap):ExR A (UB o t) ⟨o,eB,eB,0,p,1,cap⟩:=.mk (args:=[t]) (rs:=[r]) (by simp) hS.1 rfl hS.2 fun k x y hx hy=>by
 match k with
 |0=>simp at hx hy;subst hx;subst hy;exact ht
 |k+1=>simp at hx
theorem eg(x:LR):Hs 4 x=if BX x 4 ⟨#[42]⟩=true then some 14 else none:=rfl
theorem fg(pb cb:Nat)(lp:Option Addr)(lcap:Nat)(L:List LR)(A:AH)(hp:PsOk pb cb lp L A)(i:Nat)(hi:i<L.length)(hun: ∀k A',i≤k→k<L.length→PsOk pb cb lp L A'→K4 164 5 pb cb lp lcap L A' k):AZ Tryz.prog 161 #[.pointer (some ⟨pb,0,none⟩)] (PS pb cb lp lcap L i A) (K8 L A (Pr L (.lv 4) i)) (fun u_ A_=>fX pb cb lp lcap L A (Pr L (.lv 4) i) u_ A_):=by
 refine Bb ⟨Tryz.prog,161,Tryz.f161,17,[0,2,3],⟨[164,157,135],some (K8 L A (Pr L (.lv 4) i))⟩,[],_⟩ rfl (args:=[_]) Tryz.func161 rfl (by kernel_rfl) Tryz.ntmps161 (by simp) (by kernel_rfl) ?_
 intro ν fr;have nuE:=fr.nu
 have f0:=fr.2 0
 simp only[PS,pB]
 simp (maxDischargeDepth:=16) only[AX,↓AW,simprocAttr,forall_const,nuE,fr.2,EA,Bx,hp.ne,hp.en]
 have dst_:True:=(by simp[nuE]);generalize ν 0=n2 at dst_  f0⊢
 clear nuE fr dst_
 refine AZ.to (hun i A (Nat.le_refl _) hi hp) (SubA.fresh f0 (SubA.refl _)) [(n2,_)] (SubA.left [_] _) (Dis.one f0).symm (fun ch D h dD=>⟨D,SubA.left _ _,h.mono (SubA.refl _) fun e j h=>.opE (by decide) (by decide) h⟩) ?_
 rintro v D ⟨t,j,r,A',hq,rfl,hr,hj,hs,hp',hD⟩ dD
 refine⟨_,SubA.front dD hD, ?_⟩
 have g2:Vm.AA (PS pb cb lp lcap L j A') n2=none:=hD.none (dD n2 (by simp[Vm.AA]))
 simp only[PS,pB,List.cons_append,List.nil_append]
 intro ν fr;have nuE:=And.intro (fr.mem (b:=n2) (by simp)) (fr.nu)
 simp only[C5,Ck]
 have f3:Vm.AA ((n2,_)::PS pb cb lp lcap L j A') (ν 0)=none:=fr.2 0
 simp (maxDischargeDepth:=16) only[AX,↓AW,simprocAttr,forall_const,nuE,fr.2,EA,Bx]
 have dst_:((ν 0=n2)=False)∧((n2=ν 0)=False):=(by simp[nuE]);generalize ν 0=n3 at dst_  f3⊢
 clear nuE fr dD hD
 have e32:n3≠n2:=fun h=>by rw[h]at f3;simp[Vm.AA]at f3
 have g3:Vm.AA (PS pb cb lp lcap L j A') n3=none:=by simpa[Vm.AA,e32.symm]using f3
 clear f3 f0
 have hq': ∀z,Pr L (.lp 4 t) j z→Pr L (.lv 4) i z:=fun z hz=>.opO (by decide) (by decide) hq hz
 have hij:i≤j:=hq.le
 clear hq
 generalize hm:L.length - j=m
 induction m using Nat.strongRecOn generalizing t j r A' with
 | ind m ih=>
  obtain⟨x,hx,hlx⟩:=Bw hj
  obtain⟨⟨m1,m2⟩,m3,m4⟩:=hp'.far g2
  obtain⟨⟨m5,m6⟩,m7,m8⟩:=hp'.far g3
  refine Ah.intro (by kernel_rfl) ?_
  intro ν fr;have nuE:=And.intro (fr.mem (b:=n3) (by simp)) (And.intro (fr.mem (b:=n2) (by simp)) (fr.nu))
  simp (maxDischargeDepth:=16) only[AX,↓AW,simprocAttr,forall_const,nuE,fr.2,EA,Bx,dst_,m1,m2,m3,m4,m5,m6,m7,m8,hp'.ne,hp'.en]
  cases hmk:BX x 4 ⟨#[42]⟩with
  |true=>
   refine AZ.to (AZ.of (X:=fun _ _=>False) (FV pb cb lp lcap L A' hp' j x hx _ hmk)) (SubA.fresh (AK (eq_false e32.symm) g3) (SubA.fresh g2 (SubA.refl _))) [(n3,_),(n2,_)] (SubA.left [_,_] _) (dis2 g3 g2) (fun ch D h=>h.elim) ?_
   rintro v D ⟨rfl,hD⟩ dD
   refine⟨_,SubA.front dD hD, ?_⟩
   clear nuE fr
   simp only[List.cons_append,List.nil_append]
   intro ν fr;have nuE:=And.intro (fr.mem (b:=n3) (by simp)) (And.intro (fr.mem (b:=n2) (by simp)) (fr.nu))
   simp (maxDischargeDepth:=16) only[AX,↓AW,simprocAttr,forall_const,nuE,fr.2,EA,Bx,dst_,m1,m2,m3,m4,m5,m6,m7,m8,hp'.ne,hp'.en]
   obtain⟨hn1,hn2⟩:=DP hp'.he hx (by rw[Bu hmk];decide)
   have ho:Hs 4 (BR L j)=some 14:=by rw[hlx,eg,hmk];rfl
   rw[hn1]
   refine CO.plan [(0,0),(1,0),(2,0),(3,2),(4,1),(5,2)] [(n3,.cells #[.int .i64 r.op,.string r.nm,.string r.tx,.int .i64 r.n,.slice r.p r.len r.cap] 36)] (SubA.left [_] _) (by kernel_rfl) (by kernel_rfl) (by kernel_rfl) (by kernel_rfl) (by kernel_rfl) (by kernel_rfl) ?_
   clear nuE fr hD dD D
   intro ν fr;have nuE:=And.intro (fr.mem (b:=n3) (by simp)) (And.intro (fr.mem (b:=n2) (by simp)) (fr.nu))
   simp (maxDischargeDepth:=16) only[AX,↓AW,simprocAttr,forall_const,nuE,fr.2,EA,Bx,dst_,m1,m2,m3,m4,m5,m6,m7,m8,hp'.ne,hp'.en]
   refine AZ.to (hun (j+1) A' (by omega) hn2 hp') (SubA.fresh (AK (eq_false e32.symm) (Ao g3)) (SubA.fresh (Ao g2) (SubA.refl _))) [(n3,_),(n2,_)] (SubA.left [_,_] _) (dis2 (Ao g3) (Ao g2)) (fun ch D h dD=>⟨D,SubA.left _ _,h.mono hs fun e k h=>hq' _ (.lpE ho h)⟩) ?_
   rintro v D ⟨t2,k,r2,A2,hq2,rfl,hr2,hk,hs2,hp2,hD⟩ dD
   refine⟨_,SubA.front dD hD, ?_⟩
   have g23:Vm.AA (PS pb cb lp lcap L k A2) n3=none:=hD.none (dD n3 (by simp[Vm.AA]))
   have g22:Vm.AA (PS pb cb lp lcap L k A2) n2=none:=hD.none (dD n2 (by simp[Vm.AA,e32]))
   clear nuE fr
   simp only[PS,pB,List.cons_append,List.nil_append,C5,Ck]
   intro ν fr;have nuE:=And.intro (fr.mem (b:=n3) (by simp)) (And.intro (fr.mem (b:=n2) (by simp)) (fr.nu))
   have g5:Vm.AA ((n3,_)::(n2,_)::PS pb cb lp lcap L k A2) (ν 0)=none:=fr.2 0
   simp (maxDischargeDepth:=16) only[AX,↓AW,simprocAttr,forall_const,nuE,fr.2,EA,Bx,F5]
   have dst_:((ν 0=n3)=False)∧((ν 0=n2)=False)∧((n3=ν 0)=False)∧((n2=ν 0)=False):=(by simp[nuE]);generalize ν 0=n5 at dst_  g5⊢
   clear nuE fr dD hD D
   refine AZ.of (AM.newX (Du ((n5,.cells #[.int .i64 r.op,.string r.nm,.string r.tx,.int .i64 r.n,.slice r.p r.len r.cap,.int .i64 r2.op,.string r2.nm,.string r2.tx,.int .i64 r2.n,.slice r2.p r2.len r2.cap] 36)::(n3,.cells #[.int .i64 r.op,.string r.nm,.string r.tx,.int .i64 r.n,.slice r.p r.len r.cap] 36)::(n2,.cells #[.int .i64 0,.string ⟨#[]⟩,.string ⟨#[]⟩,.int .i64 0,.slice none 0 0] 36)::PS pb cb lp lcap L k A2) 14 [r,r2] (some ⟨n5,0,none⟩) 2 (FW n5 _ r r2 _) (by simp)) (SubA.refl _) ?_)
   rintro v B ⟨p',c',rfl,hS'⟩ hdB
   have s5:SubA (PS pb cb lp lcap L k A2) ((n5,.cells #[.int .i64 r.op,.string r.nm,.string r.tx,.int .i64 r.n,.slice r.p r.len r.cap,.int .i64 r2.op,.string r2.nm,.string r2.tx,.int .i64 r2.n,.slice r2.p r2.len r2.cap] 36)::(n3,.cells #[.int .i64 r.op,.string r.nm,.string r.tx,.int .i64 r.n,.slice r.p r.len r.cap] 36)::(n2,.cells #[.int .i64 0,.string ⟨#[]⟩,.string ⟨#[]⟩,.int .i64 0,.slice none 0 0] 36)::PS pb cb lp lcap L k A2):=SubA.fresh g5 (SubA.fresh (AK (eq_false e32.symm) g23) (SubA.fresh g22 (SubA.refl _)))
   have hp3:=hp2.app hdB s5
   have hs3:SubA A2 (A2++B):=SubA.left _ _
   have n53:Vm.AA B n3=none:=hdB n3 (by simp[Vm.AA,dst_])
   have n52:Vm.AA B n2=none:=hdB n2 (by simp[Vm.AA,dst_,e32])
   have n55:Vm.AA B n5=none:=hdB n5 (by simp[Vm.AA])
   have gA5:Vm.AA (PS pb cb lp lcap L k A2) n5=none:=(SubA.fresh (AK (eq_false e32.symm) g23) (SubA.fresh g22 (SubA.refl _))).none g5
   have dBA:Dis B A2:=Dis.subr hdB (SubA.trans (show SubA A2 (PS pb cb lp lcap L k A2) from SubA.skip (by simp[Vm.AA,hp2.nc,hp2.ne]) (SubA.skip hp2.np (SubA.refl _))) s5)
   have sM:SubA ((n5,.cells #[.int .i64 r.op,.string r.nm,.string r.tx,.int .i64 r.n,.slice r.p r.len r.cap,.int .i64 r2.op,.string r2.nm,.string r2.tx,.int .i64 r2.n,.slice r2.p r2.len r2.cap] 36)::(n3,.cells #[.int .i64 r.op,.string r.nm,.string r.tx,.int .i64 r.n,.slice r.p r.len r.cap] 36)::(n2,.cells #[.int .i64 0,.string ⟨#[]⟩,.string ⟨#[]⟩,.int .i64 0,.slice none 0 0] 36)::PS pb cb lp lcap L k A2) ((n5,.cells #[.int .i64 r.op,.string r.nm,.string r.tx,.int .i64 r.n,.slice r.p r.len r.cap,.int .i64 r2.op,.string r2.nm,.string r2.tx,.int .i64 r2.n,.slice r2.p r2.len r2.cap] 36)::(n3,.cells #[.int .i64 r.op,.string r.nm,.string r.tx,.int .i64 r.n,.slice r.p r.len r.cap] 36)::(n2,.cells #[.int .i64 0,.string ⟨#[]⟩,.string ⟨#[]⟩,.int .i64 0,.slice none 0 0] 36)::PS pb cb lp lcap L k (A2++B)):=SubA.left _ B
   refine⟨(n5,.cells #[.int .i64 r.op,.string r.nm,.string r.tx,.int .i64 r.n,.slice r.p r.len r.cap,.int .i64 r2.op,.string r2.nm,.string r2.tx,.int .i64 r2.n,.slice r2.p r2.len r2.cap] 36)::(n3,.cells #[.int .i64 r.op,.string r.nm,.string r.tx,.int .i64 r.n,.slice r.p r.len r.cap] 36)::(n2,.cells #[.int .i64 0,.string ⟨#[]⟩,.string ⟨#[]⟩,.int .i64 0,.slice none 0 0] 36)::PS pb cb lp lcap L k (A2++B),SubA.both hdB.right (SubA.left _ _), ?_⟩
   simp only[PS,pB,C5,Ck]at sM⊢
   intro ν fr;have nuE:=And.intro (fr.mem (b:=n5) (by simp)) (And.intro (fr.mem (b:=n3) (by simp)) (And.intro (fr.mem (b:=n2) (by simp)) (fr.nu)))
   simp (maxDischargeDepth:=16) only[AX,↓AW,simprocAttr,forall_const,nuE,fr.2,EA,Bx,dst_,eq_true sM]
   have g5':Vm.AA ((n3,Obj.cells #[.int .i64 14,.string ⟨#[]⟩,.string ⟨#[]⟩,.int .i64 0,.slice p' 2 c'] 36)::(n2,.cells #[.int .i64 0,.string ⟨#[]⟩,.string ⟨#[]⟩,.int .i64 0,.slice none 0 0] 36)::PS pb cb lp lcap L k (A2++B)) n5=none:=AK (by simp[dst_]) (AK (by simp[dst_]) (AJ gA5 n55))
   refine Ah.at (SubA.fresh g5' (SubA.refl _)) ?_
   exact Ah.weak (ih (L.length - k) (by have:=hq2.le;omega) (Ee 14 t t2) k ⟨14,eB,eB,0,p',2,c'⟩ (A2++B) (((hr.mono hs2).mono hs3).two (hr2.mono hs3) (hS'.mono dBA.symm.right)) hk (SubA.trans (SubA.trans hs hs2) hs3) hp3 (AJ g22 n52) (AJ g23 n53) (fun z hz=>hq' z (.lpO ho hq2 hz)) (by have:=hq2.le;omega) rfl) (by simp only[BW,Ab,Nat.reduceEqDiff,↓reduceIte,reduceCtorEq,Nat.reduceAdd,and_self,and_true]) (SubA.refl _)
  |false=>
   refine AZ.to (AZ.of (X:=fun _ _=>False) (FU pb cb lp lcap L A' hp' j x hx _ hmk)) (SubA.fresh (AK (eq_false e32.symm) g3) (SubA.fresh g2 (SubA.refl _))) [(n3,_),(n2,_)] (SubA.left [_,_] _) (dis2 g3 g2) (fun ch D h=>h.elim) ?_
   rintro v D ⟨rfl,hD⟩ dD
   refine⟨_,SubA.front dD hD, ?_⟩
   clear nuE fr
   simp only[List.cons_append,List.nil_append]
   intro ν fr;have nuE:=And.intro (fr.mem (b:=n3) (by simp)) (And.intro (fr.mem (b:=n2) (by simp)) (fr.nu))
   simp (maxDischargeDepth:=16) only[AX,↓AW,simprocAttr,forall_const,nuE,fr.2,EA,Bx,dst_,m1,m2,m3,m4,m5,m6,m7,m8,hp'.ne,hp'.en]
   have ho:Hs 4 (BR L j)=none:=by rw[hlx,eg,hmk];rfl
   exact⟨t,j,r,A',hq' _ (.lpN ho),rfl,hr,hj,hs,hp',SubA.fresh (AK (eq_false e32.symm) (Ao g3)) (SubA.fresh (Ao g2) (SubA.refl _))⟩
end Go.Proofs.YtfphceknmgadgaaGreatDoor
