/-
The parser of rules: small functions, the grammar, expressions in memory, products.
Conditions: none.
-/
import Derived.Test.YtgmfcdeknaeikaaGreatDoorQc
set_option linter.unusedSimpArgs false
set_option linter.unusedVariables false
namespace Go.Vm
theorem AM.useX{P:Program}{g:FuncId}{args:Array Value}{A A0:AH}{X0 X:List PanicEntry→AH→Prop}{K0 K:Value→AH→Prop}(hc:AM P g args A0 X0 K0)(hs:SubA A0 A)(Y:AH)(hY:SubA Y A)(hd:Dis A0 Y)
  (hx: ∀ch D,X0 ch D→Dis D Y→ ∃A'',SubA A'' D∧X ch (A''++Y)) (hk: ∀v D,K0 v D→Dis D Y→ ∃A'',SubA A'' D∧K v (A''++Y)):AM P g args A X K:=by
 intro h hA
 have h1:=hc h (hA.sub hs)
 have st: ∀{D A'':AH} {h':AL},CQ D h'→BN A0 h D h'→SubA A'' D→CQ (A''++Y) h'∧BN A h (A''++Y) h':=by
  intro D A'' h' hD kp h2
  refine⟨CQ.both (hD.sub h2) fun b o hl=> ?_,kp.1,fun b hb hl=> ?_⟩
  ·have hb:=hA _ _ (hY _ _ hl)
   have hlt:=hA.lt (hY _ _ hl)
   rw[(kp.2 b hlt (hd b (by rw[hl];simp))).1]
   exact hb
  ·obtain⟨q1,q2⟩:=kp.2 b hb (hs.none hl)
   exact⟨q1,AD (h2.none q2) (hY.none hl)⟩
 have dd: ∀{D:AH} {h':AL},BN A0 h D h'→Dis D Y:=fun kp x hx=>by
  cases hl:AA Y x with
  |none=>exact absurd hl hx
  |some o=>exact(kp.2 x (hA.lt (hY _ _ hl)) (hd x hx)).2
 have key: ∀e h',YT A0 h X0 K0 e h'→YT A h X K e h':=by
  rintro e h' (⟨v,D,he,hD,kp,hK⟩|⟨ch,D,he,hD,kp,hX⟩)
  ·obtain⟨A'',h2,h3⟩:=hk v D hK (dd kp)
   exact .inl ⟨v,_,he,(st hD kp h2).1,(st hD kp h2).2,h3⟩
  ·obtain⟨A'',h2,h3⟩:=hx ch D hX (dd kp)
   exact .inr ⟨ch,_,he,(st hD kp h2).1,(st hD kp h2).2,h3⟩
 unfold Di at h1⊢
 split
 ·rename_i hcl
  rw[if_pos hcl]at h1
  exact h1.mono0 key
 ·rename_i hcl
  rw[if_neg hcl]at h1
  intro w hw
  obtain⟨v,w',r1,r2,r3⟩:=h1 w hw
  exact⟨v,w',r1,r2,key _ _ r3⟩
theorem AM.sub{P:Program}{g:FuncId}{args:Array Value}{A A0:AH}{X:List PanicEntry→AH→Prop}{K:Value→AH→Prop}(hc:AM P g args A0 X K)(hs:SubA A0 A):AM P g args A X K:=
 AM.useX hc hs [] (SubA.nil _) (fun x hx=>absurd rfl hx) (fun v D h _=>⟨D,SubA.refl _,by rw[List.append_nil];exact h⟩) fun v D h _=>⟨D,SubA.refl _,by rw[List.append_nil];exact h⟩
end Go.Vm
namespace Go.Proofs.YtgmfcdeknaeikaaGreatDoor
open Go.Vm
set_option maxHeartbeats 2000000
set_option maxRecDepth 20000
def pB(cb:Nat):Obj:=.cells #[.pointer (some ⟨cb,0,none⟩)] 203
def YK(e at_:Int):List PanicEntry:=[{v:=.iface 201 (.agg #[.int .i64 e,.int .i64 at_]),recovered:=false}]
def PS(pb cb:Nat)(lp:Option Addr)(lcap:Nat)(L:List LR)(i:Nat)(A:AH):AH:=(cb,Dj lp lcap L i)::(pb,pB cb)::A
structure PsOk(pb cb:Nat)(lp:Option Addr)(L:List LR)(A:AH):Prop where
 ne:(pb=cb)=False
 en:(cb=pb)=False
 np:Vm.AA A pb=none
 nc:Vm.AA A cb=none
 hL:B5 LR.cells 4 A lp L
 hl:L.length≤100000
 he:eT L
theorem PsOk.far{pb cb:Nat}{lp:Option Addr}{lcap i:Nat}{L:List LR}{A:AH}(hp:PsOk pb cb lp L A){n:Nat}(h:Vm.AA (PS pb cb lp lcap L i A) n=none):(((n=pb)=False)∧((pb=n)=False))∧(((n=cb)=False)∧((cb=n)=False)):=
 ⟨AU h (show Vm.AA (PS pb cb lp lcap L i A) pb=some (pB cb) by simp[PS,Vm.AA,hp.en]),AU h (show Vm.AA (PS pb cb lp lcap L i A) cb=some (Dj lp lcap L i) by simp[PS,Vm.AA])⟩
theorem sq:Tryz.prog.concrete 201=true:=by kernel_rfl
theorem PsOk.base{pb cb:Nat}{lp:Option Addr}{L:List LR}{A:AH}(hp:PsOk pb cb lp L A):Vm.AA ((pb,pB cb)::A) cb=none∧B5 LR.cells 4 ((pb,pB cb)::A) lp L:=⟨by simp only[Vm.AA,hp.ne,if_false];exact hp.nc,hp.hL.mono (SubA.skip hp.np (SubA.refl _))⟩
def M9(s:ByteArray):Bool:=decide (s.toList=ByteArray.toList ⟨#[114,117,108,101]⟩)||decide (s.toList=ByteArray.toList ⟨#[119,104,101,110]⟩)||decide (s.toList=ByteArray.toList ⟨#[115,99,111,114,101]⟩)||decide (s.toList=ByteArray.toList ⟨#[112,97,115,115]⟩)||decide (s.toList=ByteArray.toList ⟨#[114,101,102,101,114]⟩)||decide (s.toList=ByteArray.toList ⟨#[100,101,99,108,105,110,101]⟩)||decide (s.toList=ByteArray.toList ⟨#[97,110,100]⟩)||decide (s.toList=ByteArray.toList ⟨#[111,114]⟩)||decide (s.toList=ByteArray.toList ⟨#[110,111,116]⟩)||decide (s.toList=ByteArray.toList ⟨#[105,110]⟩)||decide (s.toList=ByteArray.toList ⟨#[99,111,117,110,116]⟩)||decide (s.toList=ByteArray.toList ⟨#[115,117,109]⟩)
theorem LG(pb cb:Nat)(lp:Option Addr)(lcap:Nat)(L:List LR)(A:AH)(hp:PsOk pb cb lp L A)(i:Nat)(x:LR)(hx:L[i]? =some x)(e:Int):AM Tryz.prog 146 #[.pointer (some ⟨pb,0,none⟩),.int .i64 e] (PS pb cb lp lcap L i A) (fun ch D=>ch=YK e (x.a:Int)∧SubA (PS pb cb lp lcap L i A) D) (fun u_ A_=>False):=by
 refine Ao ⟨Tryz.prog,146,Tryz.f146,13,[0,1],⟨[],some (fun ch D=>ch=YK e (x.a:Int)∧SubA (PS pb cb lp lcap L i A) D)⟩,[],_⟩ rfl (args:=[_,_]) Tryz.func146 rfl (by kernel_rfl) Tryz.ntmps146 (by simp) (by kernel_rfl) ?_
 intro ν fr
 have pk:=LM ((pb,pB cb)::A) cb L lp lcap hp.base.1 hp.base.2 i x hx
 simp only[PS,pB,DV,YK]at pk⊢
 simp only[AF,↓AE,simprocAttr,pk,sq,hp.en]
def Er(pb cb:Nat)(lp:Option Addr)(lcap:Nat)(L:List LR)(A:AH)(e:Int)(j:Nat)(ch:List PanicEntry)(D:AH):Prop:= ∃x,L[j]? =some x∧ch=YK e (x.a:Int)∧SubA (PS pb cb lp lcap L j A) D
theorem Ka(pb cb:Nat)(lp:Option Addr)(lcap:Nat)(L:List LR)(A:AH)(hp:PsOk pb cb lp L A)(i:Nat)(x:LR)(hx:L[i]? =some x)(t:ByteArray)(h:Aw x 1 t=true):AK Tryz.prog 148 #[.pointer (some ⟨cb,0,none⟩),.string t] ((cb,Dj lp lcap L i)::(pb,.cells #[.pointer (some ⟨cb,0,none⟩)] 203)::A) fun u D=>u=.bool true∧SubA ((cb,Dj lp lcap L (Wg L i))::(pb,.cells #[.pointer (some ⟨cb,0,none⟩)] 203)::A) D:=by
 have:=VQ ((pb,pB cb)::A) cb L lp lcap hp.base.1 hp.base.2 hp.hl i x hx t
 rw[h]at this
 simpa only[pB,if_true,Bool.false_eq_true,if_false]using this
theorem KZ(pb cb:Nat)(lp:Option Addr)(lcap:Nat)(L:List LR)(A:AH)(hp:PsOk pb cb lp L A)(i:Nat)(x:LR)(hx:L[i]? =some x)(t:ByteArray)(h:Aw x 1 t=false):AK Tryz.prog 148 #[.pointer (some ⟨cb,0,none⟩),.string t] ((cb,Dj lp lcap L i)::(pb,.cells #[.pointer (some ⟨cb,0,none⟩)] 203)::A) fun u D=>u=.bool false∧SubA ((cb,Dj lp lcap L i)::(pb,.cells #[.pointer (some ⟨cb,0,none⟩)] 203)::A) D:=by
 have:=VQ ((pb,pB cb)::A) cb L lp lcap hp.base.1 hp.base.2 hp.hl i x hx t
 rw[h]at this
 simpa only[pB,if_true,Bool.false_eq_true,if_false]using this
theorem Fj(pb cb:Nat)(lp:Option Addr)(lcap:Nat)(L:List LR)(A:AH)(hp:PsOk pb cb lp L A)(i:Nat)(x:LR)(hx:L[i]? =some x)(t:ByteArray)(h:Aw x 4 t=true):AK Tryz.prog 192 #[.pointer (some ⟨cb,0,none⟩),.string t] ((cb,Dj lp lcap L i)::(pb,.cells #[.pointer (some ⟨cb,0,none⟩)] 203)::A) fun u D=>u=.bool true∧SubA ((cb,Dj lp lcap L (Wg L i))::(pb,.cells #[.pointer (some ⟨cb,0,none⟩)] 203)::A) D:=by
 have:=Ol ((pb,pB cb)::A) cb L lp lcap hp.base.1 hp.base.2 hp.hl i x hx t
 rw[h]at this
 simpa only[pB,if_true,Bool.false_eq_true,if_false]using this
theorem Fi(pb cb:Nat)(lp:Option Addr)(lcap:Nat)(L:List LR)(A:AH)(hp:PsOk pb cb lp L A)(i:Nat)(x:LR)(hx:L[i]? =some x)(t:ByteArray)(h:Aw x 4 t=false):AK Tryz.prog 192 #[.pointer (some ⟨cb,0,none⟩),.string t] ((cb,Dj lp lcap L i)::(pb,.cells #[.pointer (some ⟨cb,0,none⟩)] 203)::A) fun u D=>u=.bool false∧SubA ((cb,Dj lp lcap L i)::(pb,.cells #[.pointer (some ⟨cb,0,none⟩)] 203)::A) D:=by
 have:=Ol ((pb,pB cb)::A) cb L lp lcap hp.base.1 hp.base.2 hp.hl i x hx t
 rw[h]at this
 simpa only[pB,if_true,Bool.false_eq_true,if_false]using this
theorem HK(pb cb:Nat)(lp:Option Addr)(lcap:Nat)(L:List LR)(A:AH)(hp:PsOk pb cb lp L A)(i:Nat)(x:LR)(hx:L[i]? =some x)(t:ByteArray):AM Tryz.prog 200 #[.pointer (some ⟨pb,0,none⟩),.string t] (PS pb cb lp lcap L i A) (fun ch D=>Aw x 4 t=false∧Er pb cb lp lcap L A 2 i ch D) (fun u_ A_=>Aw x 4 t=true∧SubA (PS pb cb lp lcap L (Wg L i) A) A_):=by
 refine Ao ⟨Tryz.prog,200,Tryz.f200,13,[0,1],⟨[192,146],some (fun ch D=>Aw x 4 t=false∧Er pb cb lp lcap L A 2 i ch D)⟩,[],_⟩ rfl (args:=[_,_]) Tryz.func200 rfl (by kernel_rfl) Tryz.ntmps200 (by simp) (by kernel_rfl) ?_
 intro ν fr
 simp only[PS,pB]
 simp only[AF,↓AE,simprocAttr,hp.en]
 refine AM.of (AK.put (Ol ((pb,pB cb)::A) cb L lp lcap hp.base.1 hp.base.2 hp.hl i x hx t) (SubA.refl _) ?_)
 clear fr
 intro ν fr
 simp only[pB]
 cases hx4:Aw x 4 t with
 |true=>simp only[AF,↓AE,simprocAttr]
 |false=>
  simp only[AF,↓AE,simprocAttr]
  refine AM.useX (LG pb cb lp lcap L A hp i x hx 2) (SubA.refl _) [] (SubA.nil _) (fun x hx=>absurd rfl hx) (fun ch D ⟨h1,h2⟩ _=>⟨_,h2,⟨x,hx,h1,by rw[List.append_nil];exact SubA.refl _⟩⟩) (fun v D h _=>h.elim)
theorem nZ(s:ByteArray):AK Tryz.prog 174 #[.string s] [] (fun u_ _=>u_=.bool (M9 s)):=by
 refine AC ⟨Tryz.prog,174,Tryz.f174,17,[0,2,3],⟨[],none⟩,[],_⟩ rfl (args:=[_]) Tryz.func174 rfl (by kernel_rfl) Tryz.ntmps174 (by simp) (by kernel_rfl) ?_
 intro ν fr
 simp only[AF,↓AE,simprocAttr]
 unfold M9
 repeat' split
 all_goals simp_all
theorem GP(s:ByteArray)(A_:AH):Ag Tryz.prog 174 #[.string s] A_=some (.bool (M9 s)):=AX (BD (by kernel_rfl) (nZ s))
def Gi(x:LR):Bool:=decide (x.k=1)&& !(M9 x.t)
theorem jQ(pb cb:Nat)(lp:Option Addr)(lcap:Nat)(L:List LR)(A:AH)(hp:PsOk pb cb lp L A)(i:Nat)(x:LR)(hx:L[i]? =some x):AM Tryz.prog 206 #[.pointer (some ⟨pb,0,none⟩)] (PS pb cb lp lcap L i A) (fun ch D=>Gi x=false∧Er pb cb lp lcap L A 2 i ch D) (fun u_ A_=>Gi x=true∧u_=.string x.t∧SubA (PS pb cb lp lcap L i A) A_):=by
 refine Ao ⟨Tryz.prog,206,Tryz.f206,21,[0,2,3],⟨[146],some (fun ch D=>Gi x=false∧Er pb cb lp lcap L A 2 i ch D)⟩,[],_⟩ rfl (args:=[_]) Tryz.func206 rfl (by kernel_rfl) Tryz.ntmps206 (by simp) (by kernel_rfl) ?_
 intro ν fr
 have pk:=LM ((pb,pB cb)::A) cb L lp lcap hp.base.1 hp.base.2 i x hx
 simp only[PS,pB,DV]at pk⊢
 have ab: ∀{Y:AH},SubA (PS pb cb lp lcap L i A) Y→Gi x=false→AM Tryz.prog 146 #[.pointer (some ⟨pb,0,none⟩),.int .i64 2] Y (fun ch D=>Gi x=false∧Er pb cb lp lcap L A 2 i ch D) fun _ _=>False:=fun hY hn=>
  AM.useX (LG pb cb lp lcap L A hp i x hx 2) hY [] (SubA.nil _) (fun x hx=>absurd rfl hx) (fun ch D ⟨h1,h2⟩ _=>⟨_,h2,hn,⟨x,hx,h1,by rw[List.append_nil];exact SubA.refl _⟩⟩) (fun v D h _=>h.elim)
 have f0:=fr.2 0
 have s0: ∀o,SubA (PS pb cb lp lcap L i A) ((ν 0,o)::PS pb cb lp lcap L i A):=fun o=>SubA.skip f0 (SubA.refl _)
 by_cases h1:x.k=1
 ·cases hr:M9 x.t with
  |false=>
   have hn:Gi x=true:=by simp[Gi,h1,hr]
   simp only[AF,↓AE,simprocAttr,GP,pk,hp.en,h1,hr]
   exact⟨hn,s0 _⟩
  |true=>
   have hn:Gi x=false:=by simp[Gi,h1,hr]
   simp only[AF,↓AE,simprocAttr,GP,pk,hp.en,h1,hr]
   exact(ab (s0 _) hn).mono (fun _ _ h=>h) fun _ _ h=>h.elim
 ·have hn:Gi x=false:=by simp[Gi,h1]
  have e1:(x.k !=1)=true:=by simp[h1]
  simp only[AF,↓AE,simprocAttr,pk,hp.en,e1]
  exact(ab (s0 _) hn).mono (fun _ _ h=>h) fun _ _ h=>h.elim
theorem AM.at_{P:Program}{g:FuncId}{args:Array Value}{A A0:AH}{X0 X:List PanicEntry→AH→Prop}{K0 K:Value→AH→Prop}(hc:AM P g args A0 X0 K0)(hs:SubA A0 A)(hx: ∀ch D,X0 ch D→X ch D)(hk: ∀v D,K0 v D→K v D):AM P g args A X K:=(AM.sub hc hs).mono hx hk
theorem Ub(pb cb:Nat)(lp:Option Addr)(lcap:Nat)(L:List LR)(A:AH)(hp:PsOk pb cb lp L A)(i:Nat)(x:LR)(hx:L[i]? =some x):AM Tryz.prog 204 #[.pointer (some ⟨pb,0,none⟩)] (PS pb cb lp lcap L i A) (fun ch D=>Gi x=false∧Er pb cb lp lcap L A 2 i ch D) (fun u_ A_=>Gi x=true∧u_=.string x.t∧SubA (PS pb cb lp lcap L (Wg L i) A) A_):=by
 refine Ao ⟨Tryz.prog,204,Tryz.f204,11,[0,2],⟨[206,194],some (fun ch D=>Gi x=false∧Er pb cb lp lcap L A 2 i ch D)⟩,[],_⟩ rfl (args:=[_]) Tryz.func204 rfl (by kernel_rfl) Tryz.ntmps204 (by simp) (by kernel_rfl) ?_
 intro ν fr
 simp only[AF,↓AE,simprocAttr]
 refine AM.useX (jQ pb cb lp lcap L A hp i x hx) (SubA.refl _) [] (SubA.nil _) (fun x hx=>absurd rfl hx) (fun ch D ⟨h1,y,h2,h3,h4⟩ _=>⟨_,h4,h1,⟨y,h2,h3,by rw[List.append_nil];exact SubA.refl _⟩⟩) ?_
 rintro v D ⟨hn,rfl,hD⟩ _
 refine⟨PS pb cb lp lcap L i A,hD, ?_⟩
 rw[List.append_nil]
 clear fr
 intro ν fr
 simp only[PS,pB]
 simp only[AF,↓AE,simprocAttr,hp.en]
 refine AM.of (AK.put (Jf ((pb,pB cb)::A) cb L lp lcap hp.base.1 hp.base.2 hp.hl i x hx) (SubA.refl _) ?_)
 clear fr
 intro ν fr
 simp only[pB,DV]
 simp only[AF,↓AE,simprocAttr]
 exact hn
def Kk(x:LR)(most:Int):Bool:=decide (x.k=2)&&decide (x.n≤most)
theorem m9(pb cb:Nat)(lp:Option Addr)(lcap:Nat)(L:List LR)(A:AH)(hp:PsOk pb cb lp L A)(i:Nat)(x:LR)(hx:L[i]? =some x)(most:Int):AM Tryz.prog 205 #[.pointer (some ⟨pb,0,none⟩),.int .i64 most] (PS pb cb lp lcap L i A) (fun ch D=>Kk x most=false∧Er pb cb lp lcap L A 2 i ch D) (fun u_ A_=>Kk x most=true∧u_=.int .i64 x.n∧SubA (PS pb cb lp lcap L (Wg L i) A) A_):=by
 refine Ao ⟨Tryz.prog,205,Tryz.f205,28,[0,1,4,5],⟨[146,194],some (fun ch D=>Kk x most=false∧Er pb cb lp lcap L A 2 i ch D)⟩,[],_⟩ rfl (args:=[_,_]) Tryz.func205 rfl (by kernel_rfl) Tryz.ntmps205 (by simp) (by kernel_rfl) ?_
 intro ν fr
 have pk:=LM ((pb,pB cb)::A) cb L lp lcap hp.base.1 hp.base.2 i x hx
 simp only[PS,pB,DV]at pk⊢
 have ab: ∀{Y:AH},SubA (PS pb cb lp lcap L i A) Y→Kk x most=false→AM Tryz.prog 146 #[.pointer (some ⟨pb,0,none⟩),.int .i64 2] Y (fun ch D=>Kk x most=false∧Er pb cb lp lcap L A 2 i ch D) fun _ _=>False:=fun hY hn=>
  AM.useX (LG pb cb lp lcap L A hp i x hx 2) hY [] (SubA.nil _) (fun x hx=>absurd rfl hx) (fun ch D ⟨h1,h2⟩ _=>⟨_,h2,hn,⟨x,hx,h1,by rw[List.append_nil];exact SubA.refl _⟩⟩) (fun v D h _=>h.elim)
 have f0:=fr.2 0
 have s0: ∀o,SubA (PS pb cb lp lcap L i A) ((ν 0,o)::PS pb cb lp lcap L i A):=fun o=>SubA.skip f0 (SubA.refl _)
 by_cases h1:x.k=2
 ·by_cases h2:most<x.n
  ·have hn:Kk x most=false:=by simp[Kk,h1];omega
   simp only[AF,↓AE,simprocAttr,pk,hp.en,h1,eq_true h2]
   exact(ab (s0 _) hn).mono (fun _ _ h=>h) fun _ _ h=>h.elim
  ·have hn:Kk x most=true:=by simp[Kk,h1];omega
   obtain⟨⟨m1,m2⟩,m3,m4⟩:=hp.far f0
   simp only[AF,↓AE,simprocAttr,pk,hp.en,h1,eq_false h2,m1]
   refine AM.of (AK.put (Jf ((pb,pB cb)::A) cb L lp lcap hp.base.1 hp.base.2 hp.hl i x hx) (s0 _) ?_)
   clear fr s0 f0
   intro ν fr
   simp only[pB,DV]
   simp only[AF,↓AE,simprocAttr]
   exact hn
 ·have hn:Kk x most=false:=by simp[Kk,h1]
  have e1:(x.k !=2)=true:=by simp[h1]
  simp only[AF,↓AE,simprocAttr,pk,hp.en,e1]
  exact(ab (s0 _) hn).mono (fun _ _ h=>h) fun _ _ h=>h.elim
set_option maxHeartbeats 2000000
set_option maxRecDepth 20000
inductive Xs where
 |mk (op:Int) (nm tx:ByteArray) (n:Int) (args:List Xs)
inductive Rz where
 |ok (t:Xs) (j:Nat)
 |er (e:Int) (j:Nat)
inductive Qr where
 |lv (l:Nat)
 |lp (l:Nat) (t:Xs)
 |ch (xs:List Xs)
def eB:ByteArray:=⟨#[]⟩
def EP(l:Nat)(x:LR):Option Int:=
 if l=0 then(if Aw x 1 ⟨#[111,114]⟩=true then some 7 else none)
 else if l=1 then(if Aw x 1 ⟨#[97,110,100]⟩=true then some 6 else none)
 else if l=3 then(if Aw x 4 ⟨#[43]⟩=true then some 12 else if Aw x 4 ⟨#[45]⟩=true then some 13 else none)
 else if Aw x 4 ⟨#[42]⟩=true then some 14 else none
def Ge(x:LR):Option Int:=if Aw x 4 ⟨#[61]⟩=true then some 8 else if Aw x 4 ⟨#[33,61]⟩=true then some 9 else if Aw x 4 ⟨#[60]⟩=true then some 10 else if Aw x 4 ⟨#[60,61]⟩=true then some 11 else none
def Mp(x:LR):Bool:=Aw x 1 ⟨#[105,110]⟩
def EV(o:Int)(a b:Xs):Xs:=.mk o eB eB 0 [a,b]
def Ji(o:Int)(a:Xs):Xs:=.mk o eB eB 0 [a]
inductive Uc where
 |one (o:Int)
 |use (o:Int)
 |par
 |num
 |txt
 |nam
 |bad
def Dh(x:LR):Uc:=
 if Aw x 1 ⟨#[110,111,116]⟩=true then .one 4 else if Aw x 4 ⟨#[45]⟩=true then .one 5 else if Aw x 1 ⟨#[99,111,117,110,116]⟩=true then .use 16 else if Aw x 1 ⟨#[115,117,109]⟩=true then .use 17
 else if Aw x 4 ⟨#[40]⟩=true then .par else if x.k=2 then .num else if x.k=3 then .txt else if Gi x=true then .nam else .bad
def KX(L:List LR)(i:Nat):Int×Nat×ByteArray×Int:=
 if Aw (Af L i) 4 ⟨#[40]⟩=false then(2,i,eB,0)else if Gi (Af L (i+1))=false then(2,i+1,eB,0)else if Aw (Af L (i+2)) 4 ⟨#[44]⟩=false then(2,i+2,eB,0)else if Kk (Af L (i+3)) 9007199254740992=false then(2,i+3,eB,0)
 else if Aw (Af L (i+4)) 4 ⟨#[41]⟩=false then(2,i+4,eB,0)else(0,i+5,(Af L (i+1)).t,(Af L (i+3)).n)
inductive Pr (L:List LR):Qr→Nat→Rz→Prop where
 |opE {l i j:Nat} {e:Int}:l≠2→l<5→Pr L (.lv (l+1)) i (.er e j)→Pr L (.lv l) i (.er e j)
 |opO {l i j:Nat} {t:Xs} {r:Rz}:l≠2→l<5→Pr L (.lv (l+1)) i (.ok t j)→Pr L (.lp l t) j r→Pr L (.lv l) i r
 |lpN {l j:Nat} {t:Xs}:EP l (Af L j)=none→Pr L (.lp l t) j (.ok t j)
 |lpE {l j k:Nat} {t:Xs} {o e:Int}:EP l (Af L j)=some o→Pr L (.lv (l+1)) (j+1) (.er e k)→Pr L (.lp l t) j (.er e k)
 |lpO {l j k:Nat} {t u:Xs} {o:Int} {r:Rz}:EP l (Af L j)=some o→Pr L (.lv (l+1)) (j+1) (.ok u k)→Pr L (.lp l (EV o t u)) k r→Pr L (.lp l t) j r
 |cmE {i j:Nat} {e:Int}:Pr L (.lv 3) i (.er e j)→Pr L (.lv 2) i (.er e j)
 |cmN {i j:Nat} {t:Xs}:Pr L (.lv 3) i (.ok t j)→Ge (Af L j)=none→Mp (Af L j)=false→Pr L (.lv 2) i (.ok t j)
 |cmF {i j k:Nat} {t:Xs} {o e:Int}:Pr L (.lv 3) i (.ok t j)→Ge (Af L j)=some o→Pr L (.lv 3) (j+1) (.er e k)→Pr L (.lv 2) i (.er e k)
 |cmO {i j k:Nat} {t u:Xs} {o:Int}:Pr L (.lv 3) i (.ok t j)→Ge (Af L j)=some o→Pr L (.lv 3) (j+1) (.ok u k)→Pr L (.lv 2) i (.ok (EV o t u) k)
 |inP {i j:Nat} {t:Xs}:Pr L (.lv 3) i (.ok t j)→Ge (Af L j)=none→Mp (Af L j)=true→Aw (Af L (j+1)) 4 ⟨#[40]⟩=false→Pr L (.lv 2) i (.er 2 (j+1))
 |inC {i j:Nat} {t:Xs} {r:Rz}:Pr L (.lv 3) i (.ok t j)→Ge (Af L j)=none→Mp (Af L j)=true→Aw (Af L (j+1)) 4 ⟨#[40]⟩=true→Pr L (.ch [t]) (j+2) r→Pr L (.lv 2) i r
 |chE {i j:Nat} {xs:List Xs} {e:Int}:Pr L (.lv 3) i (.er e j)→Pr L (.ch xs) i (.er e j)
 |chM {i j:Nat} {xs:List Xs} {u:Xs} {r:Rz}:Pr L (.lv 3) i (.ok u j)→Aw (Af L j) 4 ⟨#[44]⟩=true→Pr L (.ch (xs++[u])) (j+1) r→Pr L (.ch xs) i r
 |chO {i j:Nat} {xs:List Xs} {u:Xs}:Pr L (.lv 3) i (.ok u j)→Aw (Af L j) 4 ⟨#[44]⟩=false→Aw (Af L j) 4 ⟨#[41]⟩=true→Pr L (.ch xs) i (.ok (.mk 15 eB eB 0 (xs++[u])) (j+1))
 |chB {i j:Nat} {xs:List Xs} {u:Xs}:Pr L (.lv 3) i (.ok u j)→Aw (Af L j) 4 ⟨#[44]⟩=false→Aw (Af L j) 4 ⟨#[41]⟩=false→Pr L (.ch xs) i (.er 2 j)
 |unO {i j:Nat} {t:Xs} {o:Int}:Dh (Af L i)=.one o→Pr L (.lv 5) (i+1) (.ok t j)→Pr L (.lv 5) i (.ok (Ji o t) j)
 |unE {i j:Nat} {o e:Int}:Dh (Af L i)=.one o→Pr L (.lv 5) (i+1) (.er e j)→Pr L (.lv 5) i (.er e j)
 |usO {i j:Nat} {o n:Int} {nm:ByteArray}:Dh (Af L i)=.use o→KX L (i+1)=(0,j,nm,n)→Pr L (.lv 5) i (.ok (.mk o nm eB n []) j)
 |usE {i j:Nat} {o e n:Int} {nm:ByteArray}:Dh (Af L i)=.use o→KX L (i+1)=(e,j,nm,n)→e≠0→Pr L (.lv 5) i (.er e j)
 |paE {i j:Nat} {e:Int}:Dh (Af L i)=.par→Pr L (.lv 0) (i+1) (.er e j)→Pr L (.lv 5) i (.er e j)
 |paO {i j:Nat} {t:Xs}:Dh (Af L i)=.par→Pr L (.lv 0) (i+1) (.ok t j)→Aw (Af L j) 4 ⟨#[41]⟩=true→Pr L (.lv 5) i (.ok t (j+1))
 |paB {i j:Nat} {t:Xs}:Dh (Af L i)=.par→Pr L (.lv 0) (i+1) (.ok t j)→Aw (Af L j) 4 ⟨#[41]⟩=false→Pr L (.lv 5) i (.er 2 j)
 |nu {i:Nat}:Dh (Af L i)=.num→Pr L (.lv 5) i (.ok (.mk 1 eB eB (Af L i).n []) (i+1))
 |te {i:Nat}:Dh (Af L i)=.txt→Pr L (.lv 5) i (.ok (.mk 2 eB (Af L i).t 0 []) (i+1))
 |na {i:Nat}:Dh (Af L i)=.nam→Pr L (.lv 5) i (.ok (.mk 3 (Af L i).t eB 0 []) (i+1))
 |ba {i:Nat}:Dh (Af L i)=.bad→Pr L (.lv 5) i (.er 2 i)
theorem Pr.det{L:List LR}{q:Qr}{i:Nat}{r:Rz}(h:Pr L q i r): ∀{r':Rz},Pr L q i r'→r=r':=by
 induction h<;>intro r' h'<;>cases h'<;>first|rfl|(exfalso;omega)|grind
set_option maxHeartbeats 2000000
set_option maxRecDepth 20000
structure Xr where
 op:Int
 nm:ByteArray
 tx:ByteArray
 n:Int
 p:Option Addr
 len:Nat
 cap:Nat
def Ba(r:Xr):List Value:=[.int .i64 r.op,.string r.nm,.string r.tx,.int .i64 r.n,.slice r.p r.len r.cap]
theorem VU(r:Xr):(Ba r).length=5:=rfl
def Bt(r:Xr):Value:=.agg (Ba r).toArray
inductive ExR (A:AH):Xs→Xr→Prop where
 |mk {op n:Int} {nm tx:ByteArray} {args:List Xs} {p:Option Addr} {cap:Nat} {rs:List Xr}:args.length≤140737488355328→args.length≤cap→rs.length=args.length→B5 Ba 5 A p rs→(∀(k:Nat) (x:Xs) (r:Xr),args[k]? =some x→rs[k]? =some r→ExR A x r)→ExR A (.mk op nm tx n args) ⟨op,nm,tx,n,p,args.length,cap⟩
theorem ExR.mono{A B:AH}{t:Xs}{r:Xr}(h:ExR A t r)(hs:SubA A B):ExR B t r:=by
 induction h with
 |mk h0 h0' h1 h2 h3 ih=>exact .mk h0 h0' h1 (h2.mono hs) fun k x r hx hr=>ih k x r hx hr
theorem ExR.leaf(A:AH)(op n:Int)(nm tx:ByteArray)(p:Option Addr)(cap:Nat):ExR A (.mk op nm tx n []) ⟨op,nm,tx,n,p,0,cap⟩:=.mk (rs:=[]) (by simp) (by simp) rfl (.inl rfl) fun k x r hx=>by simp at hx
def pE(A:AH)(p:Option Addr)(L:List Xr)(cap:Nat):Prop:=L.length≤cap∧B5 Ba 5 A p L
theorem pE.mono{A B:AH}{p:Option Addr}{L:List Xr}{cap:Nat}(h:pE A p L cap)(hs:SubA A B):pE B p L cap:=⟨h.1,h.2.mono hs⟩
theorem rG:BP Tryz.prog 58 0 []=some (60,#[]):=by kernel_rfl
theorem Y4(A:AH)(L:List Xr)(p:Option Addr)(cap:Nat)(hL:B5 Ba 5 A p L)(hl:L.length≤1000000):AK Tryz.prog 179 #[.slice p L.length cap] A (fun u_ A_=> ∃v B,u_=v∧BU Ba 5 60 v B L∧Dis B A∧SubA (B++A) A_):=by
 refine AC ⟨Tryz.prog,179,Tryz.f179,8,[0,2],⟨[],none⟩,[],_⟩ rfl (args:=[_]) Tryz.func179 rfl (by kernel_rfl) Tryz.ntmps179 (by simp) (by kernel_rfl) ?_
 intro ν fr
 cases p with
 | none=>
  have hn:L=[]:=by
   rcases hL with h|⟨b,off,cs,e,fr,h1,_⟩
   ·exact h
   ·cases h1
  simp only[AF,↓AE,simprocAttr]
  exact⟨_,[],rfl,by rw[hn];exact BU.nilp _ _ _ _,Dis.nil _,SubA.refl _⟩
 | some pa=>
  simp only[AF,↓AE,simprocAttr,rG]
  have f0:=fr.2 0
  refine D0 (news:=L.flatMap Ba) cr eE rfl (by decide) (BU.at0 Ba 5 60 (ν 0)) (Mr.sub ⟨by simp[Vm.AA],trivial⟩) (hL.mono (SubA.skip (fr.2 0) (SubA.refl _))).src ?_ (by simp[maxLen];omega) (by simp;omega) ?_
  ·intro u hu
   obtain⟨a,_,ha⟩:=List.mem_flatMap.1 hu
   simp only[Ba,List.mem_cons,List.mem_nil_iff,or_false]at ha
   rcases ha with rfl|rfl|rfl|rfl|rfl<;>rfl
  ·intro v' C ho hb
   have dC:Dis C A:=J5 hb (Dis.one (fr.2 0)) (SubA.skip (fr.2 0) (SubA.refl _))
   intro ν' fr'
   have fr0:=fr
   have fr:=fr'
   simp only[AF,↓AE,simprocAttr]
   exact⟨_,C,rfl,by simpa[BU]using ho,dC,SubA.app (SubA.fresh f0 (SubA.refl _))⟩
theorem Da(A:AH)(op:Int)(L:List Xr)(p:Option Addr)(cap:Nat)(hL:B5 Ba 5 A p L)(hl:L.length≤1000000):AK Tryz.prog 149 #[.int .i64 op,.slice p L.length cap] A (fun u_ A_=> ∃v B,u_=v∧(∃p' c',v=Bt ⟨op,eB,eB,0,p',L.length,c'⟩∧pE B p' L c')∧Dis B A∧SubA (B++A) A_):=by
 refine AC ⟨Tryz.prog,149,Tryz.f149,9,[0,1,4],⟨[179],none⟩,[],_⟩ rfl (args:=[_,_]) Tryz.func149 rfl (by kernel_rfl) Tryz.ntmps149 (by simp) (by kernel_rfl) ?_
 intro ν fr
 have f0:=fr.2 0
 simp only[AF,↓AE,simprocAttr]
 have dst_:True:=(by simp[]);generalize ν 0=n4 at dst_  f0⊢
 clear fr dst_
 refine AK.newX (Y4 A L p cap hL hl) (SubA.fresh f0 (SubA.refl _)) ?_
 rintro v B ho hd
 have hn:Vm.AA B n4=none:=hd n4 (by simp[Vm.AA])
 have hd2:Dis B A:=Dis.subr hd (SubA.fresh f0 (SubA.refl _))
 refine⟨_,Y8 hn, ?_⟩
 obtain⟨p',c',rfl,h1,h2⟩:=BU.read (f:=Ba) (n:=5) (fun x=>rfl) ho
 have g0:Vm.AA (B++A) n4=none:=AD hn f0
 intro ν fr
 simp only[AF,↓AE,simprocAttr]
 exact⟨_,B,rfl,⟨p',c',rfl,h1,h2⟩,hd2,SubA.fresh g0 (SubA.refl _)⟩
end Go.Proofs.YtgmfcdeknaeikaaGreatDoor
namespace Go.Vm
theorem SubA.front{D E Y:AH}(hd:Dis D Y)(hs:SubA E D):SubA (Y++E) (D++Y):=fun b o hl=>by
 rw[BA]at hl⊢
 cases hy:AA Y b with
 |none=>
  rw[hy]at hl
  rw[hs b o hl]
 |some u=>
  rw[hy]at hl
  cases hl
  rw[hd b (by rw[hy];simp)]
theorem AM.to{P:Program}{g:FuncId}{args:Array Value}{A A0:AH}{X0 X:List PanicEntry→AH→Prop}{K0 K:Value→AH→Prop}(hc:AM P g args A0 X0 K0)(hs:SubA A0 A)(Y:AH)(hY:SubA Y A)(hd:Dis A0 Y)
  (hx: ∀ch D,X0 ch D→Dis D Y→ ∃M,SubA M (D++Y)∧X ch M) (hk: ∀v D,K0 v D→Dis D Y→ ∃M,SubA M (D++Y)∧K v M):AM P g args A X K:=by
 refine AM.sub (A0:=A) ?_ (SubA.refl A)
 have h1:AM P g args A (fun ch D'=> ∃D,D'=D++Y∧X0 ch D∧Dis D Y) (fun v D'=> ∃D,D'=D++Y∧K0 v D∧Dis D Y):=
  AM.useX hc hs Y hY hd (fun ch D h dD=>⟨D,SubA.refl _,D,rfl,h,dD⟩) (fun v D h dD=>⟨D,SubA.refl _,D,rfl,h,dD⟩)
 exact AM.useX h1 (SubA.refl A) [] (SubA.nil _) (fun x hx=>absurd rfl hx)
  (fun ch D' ⟨D,he,h,dD⟩ _=>by
   obtain⟨M,m1,m2⟩:=hx ch D h dD
   exact⟨M,by rw[he];exact m1,by rw[List.append_nil];exact m2⟩)
  (fun v D' ⟨D,he,h,dD⟩ _=>by
   obtain⟨M,m1,m2⟩:=hk v D h dD
   exact⟨M,by rw[he];exact m1,by rw[List.append_nil];exact m2⟩)
end Go.Vm
namespace Go.Proofs.YtgmfcdeknaeikaaGreatDoor
open Go.Vm
set_option maxHeartbeats 4000000
set_option maxRecDepth 20000
def eU(pb cb:Nat)(lp:Option Addr)(lcap:Nat)(L:List LR)(A:AH)(q:Rz→Prop)(u:Value)(D:AH):Prop:= ∃t j r A',q (.ok t j)∧u=Bt r∧ExR A' t r∧j<L.length∧SubA A A'∧PsOk pb cb lp L A'∧SubA (PS pb cb lp lcap L j A') D
def K6(L:List LR)(A:AH)(q:Rz→Prop)(ch:List PanicEntry)(D:AH):Prop:= ∃e j x,e≠0∧q (.er e j)∧L[j]? =some x∧ch=YK e (x.a:Int)∧SubA A D
def Kq(f:FuncId)(l:Nat)(pb cb:Nat)(lp:Option Addr)(lcap:Nat)(L:List LR)(A:AH)(i:Nat):Prop:=AM Tryz.prog f #[.pointer (some ⟨pb,0,none⟩)] (PS pb cb lp lcap L i A) (K6 L A (Pr L (.lv l) i)) (eU pb cb lp lcap L A (Pr L (.lv l) i))
theorem K6.mono{L:List LR}{A A':AH}{q q':Rz→Prop}{ch:List PanicEntry}{D:AH}(h:K6 L A' q ch D)(hs:SubA A A')(hq: ∀e j,q (.er e j)→q' (.er e j)):K6 L A q' ch D:=by
 obtain⟨e,j,x,h1,h2,h3,h4,h5⟩:=h
 exact⟨e,j,x,h1,hq e j h2,h3,h4,SubA.trans hs h5⟩
theorem K6.at{L:List LR}{A:AH}{q:Rz→Prop}{ch:List PanicEntry}{D D':AH}(h:K6 L A q ch D)(hs:SubA D D'):K6 L A q ch D':=by
 obtain⟨e,j,x,h1,h2,h3,h4,h5⟩:=h
 exact⟨e,j,x,h1,h2,h3,h4,SubA.trans h5 hs⟩
theorem Cj{L:List LR}(he:eT L){j:Nat}{x:LR}(hx:L[j]? =some x)(hk:x.k≠0):Wg L j=j+1∧j+1<L.length:=by
 have h1:=he j x hx hk
 exact⟨by unfold Wg;rw[if_pos h1],h1⟩
theorem CA{L:List LR}{j:Nat}(h:j<L.length): ∃x,L[j]? =some x∧Af L j=x:=⟨_,List.getElem?_eq_getElem h,Eo (List.getElem?_eq_getElem h)⟩
theorem Hc(a b c d e a' b' c' d' e':Value):BP Tryz.prog 58 2 [(0,.agg #[a,b,c,d,e]),(1,.agg #[a',b',c',d',e'])]=some (60,#[a,b,c,d,e,a',b',c',d',e']):=by kernel_rfl
theorem dis2{E:AH}{a b:Nat}{o u:Obj}(ha:Vm.AA E a=none)(hb:Vm.AA E b=none):Dis E [(a,o),(b,u)]:=fun x hx=>by
 simp only[Vm.AA]at hx
 by_cases h1:a=x
 ·rw[←h1];exact ha
 ·rw[if_neg h1]at hx
  by_cases h2:b=x
  ·rw[←h2];exact hb
  ·rw[if_neg h2]at hx;exact absurd rfl hx
theorem AV{pb cb:Nat}{lp:Option Addr}{lcap:Nat}{L:List LR}{j j':Nat}{A:AH}{n:Nat}(h:Vm.AA (PS pb cb lp lcap L j A) n=none):Vm.AA (PS pb cb lp lcap L j' A) n=none:=by
 simp only[PS,Vm.AA]at h⊢
 split at h
 ·cases h
 ·rename_i hne;rw[if_neg hne];exact h
theorem oV{L:List LR}{i j:Nat}{e n:Int}{nm:ByteArray}(h:KX L i=(e,j,nm,n)):i≤j:=by
 unfold KX at h
 repeat' split at h
 all_goals (simp only[Prod.mk.injEq]at h;omega)
def Rz.at_:Rz→Nat
 | .ok _ j=>j
 | .er _ j=>j
theorem Pr.le'{L:List LR}{q:Qr}{i:Nat}{r:Rz}(h:Pr L q i r):i≤r.at_:=by
 induction h<;>simp only[Rz.at_]at* <;>first|omega|(have:=oV ‹_›;omega)
theorem Pr.le{L:List LR}{q:Qr}{i j:Nat}{t:Xs}(h:Pr L q i (.ok t j)):i≤j:=h.le'
theorem lH(b:Nat)(e:TypeId)(T:List Xr)(h:T.length≤1000000):B5 Ba 5 [(b,.cells (T.flatMap Ba).toArray e)] (some ⟨b,0,none⟩) T:=by
 have o:BU Ba 5 e (.slice (some ⟨b,0,none⟩) T.length T.length) [(b,.cells (T.flatMap Ba).toArray e)] T:=.inl (Ea.at (by rw[Gv Ba 5 (fun _=>rfl)]) (by simp only[maxLen];omega))
 obtain⟨p,cap,h1,h2,h3⟩:=o.read VU
 cases h1
 exact h3
theorem GY(b:Nat)(e:TypeId)(r r':Xr)(M:AH):B5 Ba 5 ((b,.cells #[.int .i64 r.op,.string r.nm,.string r.tx,.int .i64 r.n,.slice r.p r.len r.cap,.int .i64 r'.op,.string r'.nm,.string r'.tx,.int .i64 r'.n,.slice r'.p r'.len r'.cap] e)::M) (some ⟨b,0,none⟩) [r,r']:=(lH b e [r,r'] (by simp)).mono (SubA.left [_] _)
theorem eC(b:Nat)(e:TypeId)(r:Xr)(M:AH):B5 Ba 5 ((b,.cells #[.int .i64 r.op,.string r.nm,.string r.tx,.int .i64 r.n,.slice r.p r.len r.cap] e)::M) (some ⟨b,0,none⟩) [r]:=(lH b e [r] (by simp)).mono (SubA.left [_] _)
theorem PsOk.app{pb cb:Nat}{lp:Option Addr}{lcap k:Nat}{L:List LR}{A B M:AH}(hp:PsOk pb cb lp L A)(hd:Dis B M)(hs:SubA (PS pb cb lp lcap L k A) M):PsOk pb cb lp L (A++B):=by
 have d:=Dis.subr hd hs
 exact⟨hp.ne,hp.en,AD hp.np (d pb (by simp[PS,Vm.AA,hp.en])),AD hp.nc (d cb (by simp[PS,Vm.AA])),hp.hL.mono (SubA.left _ _),hp.hl,hp.he⟩
theorem nO{pb cb:Nat}{lp:Option Addr}{lcap k:Nat}{L:List LR}{A B M:AH}(hd:Dis B M)(hs:SubA (PS pb cb lp lcap L k A) M):SubA (PS pb cb lp lcap L k (A++B)) (B++M):=by
 have e:PS pb cb lp lcap L k (A++B)=PS pb cb lp lcap L k A++B:=rfl
 rw[e]
 exact SubA.both (SubA.trans hs hd.right) (SubA.left _ _)
theorem ExR.two{A:AH}{t u:Xs}{r s:Xr}{o:Int}{p:Option Addr}{cap:Nat}(ht:ExR A t r)(hu:ExR A u s)(hS:pE A p [r,s] cap):ExR A (EV o t u) ⟨o,eB,eB,0,p,2,cap⟩:=.mk (args:=[t,u]) (rs:=[r,s]) (by simp) hS.1 rfl hS.2 fun k x y hx hy=>by
 match k with
 |0=>simp at hx hy;subst hx;subst hy;exact ht
 |1=>simp at hx hy;subst hx;subst hy;exact hu
 |k+2=>simp at hx
theorem ExR.one{A:AH}{t:Xs}{r:Xr}{o:Int}{p:Option Addr}{cap:Nat}(ht:ExR A t r)(hS:pE A p [r] cap):ExR A (Ji o t) ⟨o,eB,eB,0,p,1,cap⟩:=.mk (args:=[t]) (rs:=[r]) (by simp) hS.1 rfl hS.2 fun k x y hx hy=>by
 match k with
 |0=>simp at hx hy;subst hx;subst hy;exact ht
 |k+1=>simp at hx
theorem qr(x:LR):EP 4 x=if Aw x 4 ⟨#[42]⟩=true then some 14 else none:=rfl
theorem jU(pb cb:Nat)(lp:Option Addr)(lcap:Nat)(L:List LR)(A:AH)(hp:PsOk pb cb lp L A)(i:Nat)(hi:i<L.length)(hun: ∀k A',i≤k→k<L.length→PsOk pb cb lp L A'→Kq 202 5 pb cb lp lcap L A' k):AM Tryz.prog 199 #[.pointer (some ⟨pb,0,none⟩)] (PS pb cb lp lcap L i A) (K6 L A (Pr L (.lv 4) i)) (fun u_ A_=>eU pb cb lp lcap L A (Pr L (.lv 4) i) u_ A_):=by
 refine Ao ⟨Tryz.prog,199,Tryz.f199,17,[0,2,3],⟨[202,192,149],some (K6 L A (Pr L (.lv 4) i))⟩,[],_⟩ rfl (args:=[_]) Tryz.func199 rfl (by kernel_rfl) Tryz.ntmps199 (by simp) (by kernel_rfl) ?_
 intro ν fr
 have f0:=fr.2 0
 simp only[PS,pB]
 simp only[AF,↓AE,simprocAttr]
 have dst_:True:=(by simp[]);generalize ν 0=n2 at dst_  f0⊢
 clear fr dst_
 refine AM.to (hun i A (Nat.le_refl _) hi hp) (SubA.fresh f0 (SubA.refl _)) [(n2,_)] (SubA.left [_] _) (Dis.one f0).symm (fun ch D h dD=>⟨D,SubA.left _ _,h.mono (SubA.refl _) fun e j h=>.opE (by decide) (by decide) h⟩) ?_
 rintro v D ⟨t,j,r,A',hq,rfl,hr,hj,hs,hp',hD⟩ dD
 refine⟨_,SubA.front dD hD, ?_⟩
 have g2:Vm.AA (PS pb cb lp lcap L j A') n2=none:=hD.none (dD n2 (by simp[Vm.AA]))
 simp only[PS,pB,List.cons_append,List.nil_append]
 intro ν fr;have nuE:=fr.m1 rfl
 simp only[Bt,Ba]
 have f3:Vm.AA ((n2,_)::PS pb cb lp lcap L j A') (ν 0)=none:=fr.2 0
 simp only[AF,↓AE,simprocAttr]
 have dst_:((ν 0=n2)=False)∧((n2=ν 0)=False):=(by simp[nuE]);generalize ν 0=n3 at dst_  f3⊢
 clear nuE fr dD hD
 have e32:n3≠n2:=fun h=>by rw[h]at f3;simp[Vm.AA]at f3
 have g3:Vm.AA (PS pb cb lp lcap L j A') n3=none:=by simpa[Vm.AA,e32.symm]using f3
 clear f3 f0
 have hq': ∀z,Pr L (.lp 4 t) j z→Pr L (.lv 4) i z:=fun z hz=>.opO (by decide) (by decide) hq hz
 have hij:i≤j:=hq.le
 clear hq
 generalize hm:L.length - j=m
 induction m using Nat.strongRecOn generalizing t j r A' with
 | ind m ih=>
  obtain⟨x,hx,hlx⟩:=CA hj
  obtain⟨⟨m1,m2⟩,m3,m4⟩:=hp'.far g2
  obtain⟨⟨m5,m6⟩,m7,m8⟩:=hp'.far g3
  refine AR.intro (by kernel_rfl) ?_
  intro ν fr
  simp only[AF,↓AE,simprocAttr,m1,m5,hp'.en]
  cases hmk:Aw x 4 ⟨#[42]⟩with
  |true=>
   refine AM.to (AM.of (X:=fun _ _=>False) (Fj pb cb lp lcap L A' hp' j x hx _ hmk)) (SubA.fresh (AJ (eq_false e32.symm) g3) (SubA.fresh g2 (SubA.refl _))) [(n3,_),(n2,_)] (SubA.left [_,_] _) (dis2 g3 g2) (fun ch D h=>h.elim) ?_
   rintro v D ⟨rfl,hD⟩ dD
   refine⟨_,SubA.front dD hD, ?_⟩
   clear fr
   simp only[List.cons_append,List.nil_append]
   intro ν fr
   simp only[AF,↓AE,simprocAttr,dst_]
   obtain⟨hn1,hn2⟩:=Cj hp'.he hx (by rw[B0 hmk];decide)
   have ho:EP 4 (Af L j)=some 14:=by rw[hlx,qr,hmk];rfl
   rw[hn1]
   refine Av.plan [(0,0),(1,0),(2,0),(3,2),(4,1),(5,2)] [(n3,.cells #[.int .i64 r.op,.string r.nm,.string r.tx,.int .i64 r.n,.slice r.p r.len r.cap] 60)] (SubA.left [_] _) (by kernel_rfl) (by kernel_rfl) (by kernel_rfl) (by kernel_rfl) (by kernel_rfl) (by kernel_rfl) ?_
   clear fr hD dD D
   intro ν fr
   simp only[AF,↓AE,simprocAttr]
   refine AM.to (hun (j+1) A' (by omega) hn2 hp') (SubA.fresh (AJ (eq_false e32.symm) (AV g3)) (SubA.fresh (AV g2) (SubA.refl _))) [(n3,_),(n2,_)] (SubA.left [_,_] _) (dis2 (AV g3) (AV g2)) (fun ch D h dD=>⟨D,SubA.left _ _,h.mono hs fun e k h=>hq' _ (.lpE ho h)⟩) ?_
   rintro v D ⟨t2,k,r2,A2,hq2,rfl,hr2,hk,hs2,hp2,hD⟩ dD
   refine⟨_,SubA.front dD hD, ?_⟩
   have g23:Vm.AA (PS pb cb lp lcap L k A2) n3=none:=hD.none (dD n3 (by simp[Vm.AA]))
   have g22:Vm.AA (PS pb cb lp lcap L k A2) n2=none:=hD.none (dD n2 (by simp[Vm.AA,e32]))
   clear fr
   simp only[PS,pB,List.cons_append,List.nil_append,Bt,Ba]
   intro ν fr;have nuE:=fr.m2 rfl
   have g5:Vm.AA ((n3,_)::(n2,_)::PS pb cb lp lcap L k A2) (ν 0)=none:=fr.2 0
   simp only[AF,↓AE,simprocAttr,Hc]
   have dst_:((ν 0=n3)=False)∧((ν 0=n2)=False)∧((n3=ν 0)=False)∧((n2=ν 0)=False):=(by simp[nuE]);generalize ν 0=n5 at dst_  g5⊢
   clear nuE fr dD hD D
   refine AM.of (AK.newX (Da ((n5,.cells #[.int .i64 r.op,.string r.nm,.string r.tx,.int .i64 r.n,.slice r.p r.len r.cap,.int .i64 r2.op,.string r2.nm,.string r2.tx,.int .i64 r2.n,.slice r2.p r2.len r2.cap] 60)::(n3,.cells #[.int .i64 r.op,.string r.nm,.string r.tx,.int .i64 r.n,.slice r.p r.len r.cap] 60)::(n2,.cells #[.int .i64 0,.string ⟨#[]⟩,.string ⟨#[]⟩,.int .i64 0,.slice none 0 0] 60)::PS pb cb lp lcap L k A2) 14 [r,r2] (some ⟨n5,0,none⟩) 2 (GY n5 _ r r2 _) (by simp)) (SubA.refl _) ?_)
   rintro v B ⟨p',c',rfl,hS'⟩ hdB
   have s5:SubA (PS pb cb lp lcap L k A2) ((n5,.cells #[.int .i64 r.op,.string r.nm,.string r.tx,.int .i64 r.n,.slice r.p r.len r.cap,.int .i64 r2.op,.string r2.nm,.string r2.tx,.int .i64 r2.n,.slice r2.p r2.len r2.cap] 60)::(n3,.cells #[.int .i64 r.op,.string r.nm,.string r.tx,.int .i64 r.n,.slice r.p r.len r.cap] 60)::(n2,.cells #[.int .i64 0,.string ⟨#[]⟩,.string ⟨#[]⟩,.int .i64 0,.slice none 0 0] 60)::PS pb cb lp lcap L k A2):=SubA.fresh g5 (SubA.fresh (AJ (eq_false e32.symm) g23) (SubA.fresh g22 (SubA.refl _)))
   have hp3:=hp2.app hdB s5
   have hs3:SubA A2 (A2++B):=SubA.left _ _
   have n53:Vm.AA B n3=none:=hdB n3 (by simp[Vm.AA,dst_])
   have n52:Vm.AA B n2=none:=hdB n2 (by simp[Vm.AA,dst_,e32])
   have n55:Vm.AA B n5=none:=hdB n5 (by simp[Vm.AA])
   have gA5:Vm.AA (PS pb cb lp lcap L k A2) n5=none:=(SubA.fresh (AJ (eq_false e32.symm) g23) (SubA.fresh g22 (SubA.refl _))).none g5
   have dBA:Dis B A2:=Dis.subr hdB (SubA.trans (show SubA A2 (PS pb cb lp lcap L k A2) from SubA.skip (by simp[hp2.nc]) (SubA.skip hp2.np (SubA.refl _))) s5)
   have sM:SubA ((n5,.cells #[.int .i64 r.op,.string r.nm,.string r.tx,.int .i64 r.n,.slice r.p r.len r.cap,.int .i64 r2.op,.string r2.nm,.string r2.tx,.int .i64 r2.n,.slice r2.p r2.len r2.cap] 60)::(n3,.cells #[.int .i64 r.op,.string r.nm,.string r.tx,.int .i64 r.n,.slice r.p r.len r.cap] 60)::(n2,.cells #[.int .i64 0,.string ⟨#[]⟩,.string ⟨#[]⟩,.int .i64 0,.slice none 0 0] 60)::PS pb cb lp lcap L k A2) ((n5,.cells #[.int .i64 r.op,.string r.nm,.string r.tx,.int .i64 r.n,.slice r.p r.len r.cap,.int .i64 r2.op,.string r2.nm,.string r2.tx,.int .i64 r2.n,.slice r2.p r2.len r2.cap] 60)::(n3,.cells #[.int .i64 r.op,.string r.nm,.string r.tx,.int .i64 r.n,.slice r.p r.len r.cap] 60)::(n2,.cells #[.int .i64 0,.string ⟨#[]⟩,.string ⟨#[]⟩,.int .i64 0,.slice none 0 0] 60)::PS pb cb lp lcap L k (A2++B)):=SubA.left _ B
   refine⟨(n5,.cells #[.int .i64 r.op,.string r.nm,.string r.tx,.int .i64 r.n,.slice r.p r.len r.cap,.int .i64 r2.op,.string r2.nm,.string r2.tx,.int .i64 r2.n,.slice r2.p r2.len r2.cap] 60)::(n3,.cells #[.int .i64 r.op,.string r.nm,.string r.tx,.int .i64 r.n,.slice r.p r.len r.cap] 60)::(n2,.cells #[.int .i64 0,.string ⟨#[]⟩,.string ⟨#[]⟩,.int .i64 0,.slice none 0 0] 60)::PS pb cb lp lcap L k (A2++B),SubA.both hdB.right (SubA.left _ _), ?_⟩
   simp only[PS,pB,Bt,Ba]at sM⊢
   intro ν fr
   simp only[AF,↓AE,simprocAttr,dst_,eq_true sM]
   have g5':Vm.AA ((n3,Obj.cells #[.int .i64 14,.string ⟨#[]⟩,.string ⟨#[]⟩,.int .i64 0,.slice p' 2 c'] 60)::(n2,.cells #[.int .i64 0,.string ⟨#[]⟩,.string ⟨#[]⟩,.int .i64 0,.slice none 0 0] 60)::PS pb cb lp lcap L k (A2++B)) n5=none:=AJ (by simp[dst_]) (AJ (by simp[dst_]) (AD gA5 n55))
   refine AR.at (SubA.fresh g5' (SubA.refl _)) ?_
   exact AR.weak (ih (L.length - k) (by have:=hq2.le;omega) (EV 14 t t2) k ⟨14,eB,eB,0,p',2,c'⟩ (A2++B) (((hr.mono hs2).mono hs3).two (hr2.mono hs3) (hS'.mono dBA.symm.right)) hk (SubA.trans (SubA.trans hs hs2) hs3) hp3 (AD g22 n52) (AD g23 n53) (fun z hz=>hq' z (.lpO ho hq2 hz)) (by have:=hq2.le;omega) rfl) (by simp[Ah,AO]) (SubA.refl _)
  |false=>
   refine AM.to (AM.of (X:=fun _ _=>False) (Fi pb cb lp lcap L A' hp' j x hx _ hmk)) (SubA.fresh (AJ (eq_false e32.symm) g3) (SubA.fresh g2 (SubA.refl _))) [(n3,_),(n2,_)] (SubA.left [_,_] _) (dis2 g3 g2) (fun ch D h=>h.elim) ?_
   rintro v D ⟨rfl,hD⟩ dD
   refine⟨_,SubA.front dD hD, ?_⟩
   clear fr
   simp only[List.cons_append,List.nil_append]
   intro ν fr
   simp only[AF,↓AE,simprocAttr,dst_]
   have ho:EP 4 (Af L j)=none:=by rw[hlx,qr,hmk];rfl
   exact⟨t,j,r,A',hq' _ (.lpN ho),rfl,hr,hj,hs,hp',SubA.fresh (AJ (eq_false e32.symm) (AV g3)) (SubA.fresh (AV g2) (SubA.refl _))⟩
end Go.Proofs.YtgmfcdeknaeikaaGreatDoor
