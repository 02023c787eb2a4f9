/-
Examples; equal rules are found equal; examples of the chapter.
Conditions: none.
-/
import Derived.Test.YtfphceknmgadgaaGreatDoorQj
import Derived.Test.YtfphceknmgadgaaGreatDoorQi
set_option linter.unusedSimpArgs false
set_option linter.unusedVariables false
namespace Go.Proofs.YtfphceknmgadgaaGreatDoor
open Go.Vm
set_option maxHeartbeats 4000000
set_option maxRecDepth 20000
theorem M9:type_of% (An @BC (An @BU (An @BS (An @Aw (An @BB (An @BT (An @Bn (An @BN (An @CA (An @CS (An @B9 (An @CR (An @Cm (An @CT (An @CC (An @Bp (An @Bq (An @CQ (An @Be (An @Br (An @CB (An @Bo (An @Bx (An @AU (An @AQ (An @Am (An @Ap (An @Ag (An @BG (An @Aj (An @At (An @Au (An @Ax (An @A4 (An @A5 (An @A7 (An @BA @Ce))))))))))))))))))))))))))))))))))))):=⟨@BC,@BU,@BS,@Aw,@BB,@BT,@Bn,@BN,@CA,@CS,@B9,@CR,@Cm,@CT,@CC,@Bp,@Bq,@CQ,@Be,@Br,@CB,@Bo,@Bx,@AU,@AQ,@Am,@Ap,@Ag,@BG,@Aj,@At,@Au,@Ax,@A4,@A5,@A7,@BA,@Ce⟩
def pX(L:List LR):Nat→Qr→Nat→Option Rz
 |0,_,_=>none
 | f +1,.lv l,i=>
  if l=2 then
   match pX L f (.lv 3) i with
   |none=>none
   |some (.er e j)=>some (.er e j)
   | some (.ok t j)=>
    match Hf (BR L j)with
    |some o=>
     match pX L f (.lv 3) (j+1)with
     |none=>none
     |some (.er e k)=>some (.er e k)
     |some (.ok u k)=>some (.ok (Ee o t u) k)
    |none=>if W4 (BR L j)=false then some (.ok t j)else if BX (BR L (j+1)) 4 ⟨#[40]⟩=true then pX L f (.ch [t]) (j+2)else some (.er 2 (j+1))
  else if l<5 then
   match pX L f (.lv (l+1)) i with
   |none=>none
   |some (.er e j)=>some (.er e j)
   |some (.ok t j)=>pX L f (.lp l t) j
  else if l=5 then
   match EW (BR L i)with
   | .one o=>
    match pX L f (.lv 5) (i+1)with
    |none=>none
    |some (.er e k)=>some (.er e k)
    |some (.ok u k)=>some (.ok (UB o u) k)
   | .use o=>if(GK L (i+1)).1=0 then some (.ok (.mk o (GK L (i+1)).2.2.1 eB (GK L (i+1)).2.2.2 []) (GK L (i+1)).2.1)else some (.er (GK L (i+1)).1 (GK L (i+1)).2.1)
   | .par=>
    match pX L f (.lv 0) (i+1)with
    |none=>none
    |some (.er e k)=>some (.er e k)
    |some (.ok t j)=>if BX (BR L j) 4 ⟨#[41]⟩=true then some (.ok t (j+1))else some (.er 2 j)
   | .num=>some (.ok (.mk 1 eB eB (BR L i).n []) (i+1))
   | .txt=>some (.ok (.mk 2 eB (BR L i).t 0 []) (i+1))
   | .nam=>some (.ok (.mk 3 (BR L i).t eB 0 []) (i+1))
   | .bad=>some (.er 2 i)
  else none
 | f+1,.lp l t,j=>
  match Hs l (BR L j)with
  |none=>some (.ok t j)
  |some o=>
   match pX L f (.lv (l+1)) (j+1)with
   |none=>none
   |some (.er e k)=>some (.er e k)
   |some (.ok u k)=>pX L f (.lp l (Ee o t u)) k
 |f+1,.ch xs,i=>
  match pX L f (.lv 3) i with
  |none=>none
  |some (.er e j)=>some (.er e j)
  |some (.ok u j)=>if BX (BR L j) 4 ⟨#[44]⟩=true then pX L f (.ch (xs++[u])) (j+1)else if BX (BR L j) 4 ⟨#[41]⟩=true then some (.ok (.mk 15 eB eB 0 (xs++[u])) (j+1))else some (.er 2 j)
theorem RW(L:List LR): ∀(f:Nat) (q:Qr) (i:Nat) (r:Rz),pX L f q i=some r→Pr L q i r:=by
 intro f
 induction f with
 |zero=>intro q i r h;simp[pX]at h
 | succ f ih=>
  intro q i r h
  cases q with
  | lv l =>
   rw[pX]at h
   split at h
   ·rename_i hl
    subst hl
    split at h
    ·cases h
    ·rename_i e j h1
     cases h
     exact .cmE (ih _ _ _ h1)
    ·rename_i t j h1
     split at h
     ·rename_i o ho
      split at h
      ·cases h
      ·rename_i e k h2
       cases h
       exact .cmF (ih _ _ _ h1) ho (ih _ _ _ h2)
      ·rename_i u k h2
       cases h
       exact .cmO (ih _ _ _ h1) ho (ih _ _ _ h2)
     ·rename_i ho
      split at h
      ·rename_i hi
       cases h
       exact .cmN (ih _ _ _ h1) ho hi
      ·rename_i hi
       have hi':W4 (BR L j)=true:=by simpa using hi
       split at h
       ·rename_i hp
        exact .inC (ih _ _ _ h1) ho hi' hp (ih _ _ _ h)
       ·rename_i hp
        cases h
        exact .inP (ih _ _ _ h1) ho hi' (by simpa using hp)
   ·rename_i hl
    split at h
    ·rename_i hl5
     split at h
     ·cases h
     ·rename_i e j h1
      cases h
      exact .opE hl hl5 (ih _ _ _ h1)
     ·rename_i t j h1
      exact .opO hl hl5 (ih _ _ _ h1) (ih _ _ _ h)
    ·split at h
     ·rename_i h5
      subst h5
      split at h
      ·rename_i o hu
       split at h
       ·cases h
       ·rename_i e k h2
        cases h
        exact .unE hu (ih _ _ _ h2)
       ·rename_i u k h2
        cases h
        exact .unO hu (ih _ _ _ h2)
      ·rename_i o hu
       split at h
       ·rename_i h0
        cases h
        exact .usO hu (by rw[←h0])
       ·rename_i h0
        cases h
        exact .usE hu rfl h0
      ·rename_i hu
       split at h
       ·cases h
       ·rename_i e k h2
        cases h
        exact .paE hu (ih _ _ _ h2)
       ·rename_i t j h2
        split at h
        ·rename_i hp
         cases h
         exact .paO hu (ih _ _ _ h2) hp
        ·rename_i hp
         cases h
         exact .paB hu (ih _ _ _ h2) (by simpa using hp)
      ·rename_i hu;cases h;exact .nu hu
      ·rename_i hu;cases h;exact .te hu
      ·rename_i hu;cases h;exact .na hu
      ·rename_i hu;cases h;exact .ba hu
     ·cases h
  | lp l t=>
   rw[pX]at h
   split at h
   ·rename_i ho;cases h;exact .lpN ho
   ·rename_i o ho
    split at h
    ·cases h
    ·rename_i e k h2
     cases h
     exact .lpE ho (ih _ _ _ h2)
    ·rename_i u k h2
     exact .lpO ho (ih _ _ _ h2) (ih _ _ _ h)
  | ch xs=>
   rw[pX]at h
   split at h
   ·cases h
   ·rename_i e j h1
    cases h
    exact .chE (ih _ _ _ h1)
   ·rename_i u j h1
    split at h
    ·rename_i hm
     exact .chM (ih _ _ _ h1) hm (ih _ _ _ h)
    ·rename_i hm
     split at h
     ·rename_i hp
      cases h
      exact .chO (ih _ _ _ h1) (by simpa using hm) hp
     ·rename_i hp
      cases h
      exact .chB (ih _ _ _ h1) (by simpa using hm) (by simpa using hp)
def nX(s:ByteArray):Xs:=.mk 3 s eB 0 []
def qy(n:Int):Xs:=.mk 1 eB eB n []
def eo:ByteArray:=⟨#[102,101,101,32,102,111,111,100,32,119,104,101,110,32,99,97,116,101,103,111,114,121,32,105,110,32,40,53,52,49,49,44,32,53,52,49,50,41,58,32,49,46,48,53,37,32,43,32,49,48,32,109,97,120,32,53,48,48,59]⟩
def fN:ByteArray:=⟨#[102,101,101,32,97,32,119,104,101,110,32,49,32,61,32,49,58,32,49,32,37,59]⟩
def mw:ByteArray:=⟨#[102,101,101,32,109,105,110,32,119,104,101,110,32,49,32,61,32,49,58,32,49,37,59]⟩
def rE:Xs:=.mk 15 eB eB 0 [nX ⟨#[99,97,116,101,103,111,114,121]⟩,qy 5411,qy 5412]
def rQ:Xs:=Ee 8 (qy 1) (qy 1)
def jy:Fu:=⟨⟨#[102,111,111,100]⟩,rE,105,10,0,500⟩
def qx:ByteArray:=⟨#[99,97,116,101,103,111,114,121,32,105,110,32,40,53,52,49,49,44,32,53,52,49,50,41]⟩
def rB:ByteArray:=⟨#[49,32,61,32,49]⟩
theorem pT:PxO qx 0 0 rE:=.ok (j:=7) (by decide+kernel) (RW _ 40 _ _ _ (by kernel_rfl)) (show(AV qx).2.2[7]? =some (BR (AV qx).2.2 7) by kernel_rfl) (by decide+kernel)
theorem pq:PxO rB 0 0 rQ:=.ok (j:=3) (by decide+kernel) (RW _ 40 _ _ _ (by kernel_rfl)) (show(AV rB).2.2[3]? =some (BR (AV rB).2.2 3) by kernel_rfl) (by decide+kernel)
theorem qn:PfO eo 0 0 [jy]:=by
 have hL:(AV (Cc eo)).1=0:=by decide+kernel
 refine .ok hL (.step (u:=jy) (j:=18) (by decide+kernel) ?_ (.fin (by decide+kernel)))
 have h:=FuO.ok (s:=eo) (pl:=Cc eo) (L:=(AV (Cc eo)).2.2) (us:=[]) (i:=0) (t:=rE) (b:=105) (fx:=10) (mn:=0) (mx:=500) (k:=18) (by decide+kernel) (by rw[show Pq (Cc eo) (AV (Cc eo)).2.2 0=qx by decide+kernel];exact pT) (by kernel_rfl)
 rw[show(BR (AV (Cc eo)).2.2 (0+1)).t=⟨#[102,111,111,100]⟩ by kernel_rfl]at h
 exact h
theorem qD:PfO fN 2 18 []:=by
 have hL:(AV (Cc fN)).1=0:=by decide+kernel
 refine .er hL (.err (by decide+kernel) ?_)
 have h:=FuE.t (s:=fN) (pl:=Cc fN) (L:=(AV (Cc fN)).2.2) (us:=[]) (i:=0) (t:=rQ) (k:=7) (by decide+kernel) (by rw[show Pq (Cc fN) (AV (Cc fN)).2.2 0=rB by decide+kernel];exact pq) (by kernel_rfl)
 rw[show DF (AV (Cc fN)).2.2 7=18 by decide+kernel]at h
 exact h
theorem qr:PfO mw 2 4 []:=by
 have hL:(AV (Cc mw)).1=0:=by decide+kernel
 refine .er hL (.err (by decide+kernel) ?_)
 have h:=FuE.h (s:=mw) (pl:=Cc mw) (L:=(AV (Cc mw)).2.2) (us:=[]) (i:=0) (e:=2) (j:=1) (by decide+kernel)
 rw[show DF (AV (Cc mw)).2.2 1=4 by decide+kernel]at h
 exact h
end Go.Proofs.YtfphceknmgadgaaGreatDoor
namespace Go.Proofs.YtfphceknmgadgaaGreatDoor
open Go.Vm
set_option maxHeartbeats 4000000
set_option maxRecDepth 20000
theorem oa(A:AH)(op n:Int)(nm tx:ByteArray)(args:List Xs)(p q:Option Addr)(cap qcap:Nat)(rs ss:List Xr)(hl:args.length≤140737488355328)(hrs:rs.length=args.length)(hss:ss.length=args.length)(hS:ES Ck 5 A p rs)(hS2:ES Ck 5 A q ss)(ih: ∀(k:Nat) (x:Xs) (r s:Xr),args[k]? =some x→rs[k]? =some r→ss[k]? =some s→ ∀B,SubA A B→B5 Tryz.prog 30 #[C5 r,C5 s] B=some (.bool true)):AM Tryz.prog 30 #[.agg #[.int .i64 op,.string nm,.string tx,.int .i64 n,.slice p args.length cap],.agg #[.int .i64 op,.string nm,.string tx,.int .i64 n,.slice q args.length qcap]] A (fun u_ A_=>u_=.bool true∧SubA A A_):=by
 refine AR ⟨Tryz.prog,30,Tryz.f30,60,[0,1,2,3,4,5],⟨[],none⟩,[(6,.q false)],_⟩ rfl (args:=[_,_]) Tryz.func30 rfl (by kernel_rfl) Tryz.ntmps30 (by simp) (by kernel_rfl) ?_
 intro ν fr;have nuE:=fr.nu
 have f0:=fr.2 0
 have f1:=fr.2 1
 have n01:(ν 1=ν 0)=False:=by simp[nuE]
 simp (maxDischargeDepth:=16) only[AX,↓AW,simprocAttr,forall_const,nuE,fr.2,M9]
 have dst_:((ν 0=ν 1)=False)∧((ν 1=ν 0)=False):=(by simp[nuE]);generalize ν 0=n2 at dst_  f0 f1 n01 ⊢;generalize ν 1=n3 at dst_  f0 f1 n01⊢
 clear nuE fr
 have d0:=dst_
 obtain⟨e,l,he,hd,hle⟩: ∃(e:Nat) (l:List Xs),e=0∧l=args.drop e∧e≤args.length:=⟨0,_,rfl,rfl,by omega⟩
 rw[show(5,some (Value.int .i64 0))=(5,some (Value.int .i64 (e:Int))) by rw[he];rfl]
 clear he
 have sA: ∀o o',SubA A ((n3,o)::(n2,o')::A):=fun o o'=>SubA.fresh (AK (by simp[d0]) f1) (SubA.fresh f0 (SubA.refl _))
 induction l generalizing e with
 |nil=>
  obtain⟨hn1,hn2⟩:=drop_nil hd hle
  have lt:((e:Int)<(args.length:Int))=False:=eq_false (by omega)
  refine Ah.intro (by kernel_rfl) ?_
  intro ν fr;have nuE:=And.intro (fr.mem (b:=n3) (by simp)) (And.intro (fr.mem (b:=n2) (by simp)) (fr.nu))
  simp (maxDischargeDepth:=16) only[AX,↓AW,simprocAttr,forall_const,nuE,fr.2,M9,lt,d0]
  exact sA _ _
 |cons x l ihl=>
  obtain⟨ha,hlt,hd',htk⟩:=Dj hd
  have lt:((e:Int)<(args.length:Int))=True:=eq_true (by omega)
  have li:((e:Int)<0)=False:=eq_false (by omega)
  have we:IntKind.i64.wrap ((e:Int)+1)=((e+1:Nat):Int):=by rw[Ak (by omega) (by omega)];omega
  obtain⟨r,hr⟩: ∃r,rs[e]? =some r:=⟨_,List.getElem?_eq_getElem (by omega)⟩
  obtain⟨s,hs⟩: ∃s,ss[e]? =some s:=⟨_,List.getElem?_eq_getElem (by omega)⟩
  obtain⟨bk,off,cs,ty,fr0,hp0,hbk,hcr,hcc⟩:=hS.at hr
  obtain⟨bk',off',cs',ty',fr0',hp0',hbk',hcr',hcc'⟩:=hS2.at hs
  subst hp0
  subst hp0'
  simp only[Ck]at hcr hcr'
  obtain⟨q1,q2⟩:=BF f0 hbk
  obtain⟨q3,q4⟩:=BF f1 hbk
  obtain⟨q5,q6⟩:=BF f0 hbk'
  obtain⟨q7,q8⟩:=BF f1 hbk'
  have iv:=ih e x r s ha hr hs _ (sA (.cells #[.int .i64 op,.string nm,.string tx,.int .i64 n,.slice (some ⟨bk',off',none⟩) args.length qcap] 36) (.cells #[.int .i64 op,.string nm,.string tx,.int .i64 n,.slice (some ⟨bk,off,none⟩) args.length cap] 36))
  simp only[C5,Ck]at iv
  refine Ah.intro (by kernel_rfl) ?_
  intro ν fr;have nuE:=And.intro (fr.mem (b:=n3) (by simp)) (And.intro (fr.mem (b:=n2) (by simp)) (fr.nu))
  simp (maxDischargeDepth:=16) only[AX,↓AW,simprocAttr,forall_const,nuE,fr.2,M9,d0,lt,li,hbk,hbk',hcr,hcr',q1,q2,q3,q4,q5,q6,q7,q8,iv,we]
  exact Ah.weak (ihl (e+1) hd' (by omega)) (by simp only[BW,Ab,Nat.reduceEqDiff,↓reduceIte,reduceCtorEq,Nat.reduceAdd,and_self,and_true]) (SubA.refl _)
theorem qm(A:AH)(op n:Int)(nm tx:ByteArray)(args:List Xs)(p q:Option Addr)(cap qcap:Nat)(rs ss:List Xr)(hl:args.length≤140737488355328)(hrs:rs.length=args.length)(hss:ss.length=args.length)(hS:ES Ck 5 A p rs)(hS2:ES Ck 5 A q ss)(ih: ∀(k:Nat) (x:Xs) (r s:Xr),args[k]? =some x→rs[k]? =some r→ss[k]? =some s→ ∀B,SubA A B→B5 Tryz.prog 30 #[C5 r,C5 s] B=some (.bool true))(B_:AH)(hB_:SubA A B_):B5 Tryz.prog 30 #[.agg #[.int .i64 op,.string nm,.string tx,.int .i64 n,.slice p args.length cap],.agg #[.int .i64 op,.string nm,.string tx,.int .i64 n,.slice q args.length qcap]] B_=some (.bool true):=Bk (Ct (by kernel_rfl) (oa A op n nm tx args p q cap qcap rs ss hl hrs hss hS hS2 ih) hB_)
theorem oP{A:AH}{t:Xs}{r:Xr}(h:ExR A t r): ∀{s:Xr},ExR A t s→ ∀B,SubA A B→B5 Tryz.prog 30 #[C5 r,C5 s] B=some (.bool true):=by
 induction h with
 | @mk op n nm tx args p cap rs h0 h0' h1 h2 h3 ih=>
  intro s hs B hB
  cases hs with
  | @mk _ _ _ _ _ q qcap ss g0 g0' g1 g2 g3=>
   exact qm A op n nm tx args p q cap qcap rs ss h0 h1 g1 h2 g2 (fun k x r s hx hr hs C hC=>ih k x r hx hr (g3 k x s hx hs) C hC) B hB
theorem o6(A:AH)(us:List Fu)(p q:Option Addr)(cap qcap:Nat)(hl:us.length≤140737488355328)(hR:gy A us p)(hQ:gy A us q):AM Tryz.prog 9 #[.slice p us.length cap,.slice q us.length qcap] A (fun u_ A_=>u_=.bool true∧SubA A A_):=by
 refine AR ⟨Tryz.prog,9,Tryz.f9,94,[0,1,4,5],⟨[],none⟩,[(6,.q false)],_⟩ rfl (args:=[_,_]) Tryz.func9 rfl (by kernel_rfl) Tryz.ntmps9 (by simp) (by kernel_rfl) ?_
 intro ν fr;have nuE:=fr.nu
 obtain⟨rs,hrl,hS,hall⟩:=hR
 obtain⟨ss,hsl,hS2,hall2⟩:=hQ
 simp (maxDischargeDepth:=16) only[AX,↓AW,simprocAttr,forall_const,nuE,fr.2,M9]
 clear nuE fr
 obtain⟨e,l,he,hd,hle⟩: ∃(e:Nat) (l:List Fu),e=0∧l=us.drop e∧e≤us.length:=⟨0,_,rfl,rfl,by omega⟩
 rw[show(5,some (Value.int .i64 0))=(5,some (Value.int .i64 (e:Int))) by rw[he];rfl]
 clear he
 induction l generalizing e with
 |nil=>
  obtain⟨hn1,hn2⟩:=drop_nil hd hle
  have lt:((e:Int)<(us.length:Int))=False:=eq_false (by omega)
  refine Ah.intro (by kernel_rfl) ?_
  intro ν fr;have nuE:=fr.nu
  simp (maxDischargeDepth:=16) only[AX,↓AW,simprocAttr,forall_const,nuE,fr.2,M9,lt]
 | cons x l ihl=>
  obtain⟨ha,hlt,hd',htk⟩:=Dj hd
  have lt:((e:Int)<(us.length:Int))=True:=eq_true (by omega)
  have li:((e:Int)<0)=False:=eq_false (by omega)
  have we:IntKind.i64.wrap ((e:Int)+1)=((e+1:Nat):Int):=by rw[Ak (by omega) (by omega)];omega
  obtain⟨r,hr⟩: ∃r,rs[e]? =some r:=⟨_,List.getElem?_eq_getElem (by omega)⟩
  obtain⟨s,hs⟩: ∃s,ss[e]? =some s:=⟨_,List.getElem?_eq_getElem (by omega)⟩
  obtain⟨bk,off,cs,ty,fr0,hp0,hbk,hcr,hcc⟩:=hS.at hr
  obtain⟨bk',off',cs',ty',fr0',hp0',hbk',hcr',hcc'⟩:=hS2.at hs
  obtain⟨r1,r2,r3,r4,r5,r6⟩:=hall e x r ha hr
  obtain⟨s1,s2,s3,s4,s5,s6⟩:=hall2 e x s ha hs
  subst hp0
  subst hp0'
  have c0:cs[off+e*10]? =some (.string x.nm):=hcc 0 _ (by simp[Fo,r1])
  have c6:cs[off+e*10+6]? =some (.int .i64 x.bps):=hcc 6 _ (by simp[Fo,r3])
  have c7:cs[off+e*10+7]? =some (.int .i64 x.fx):=hcc 7 _ (by simp[Fo,r4])
  have c8:cs[off+e*10+8]? =some (.int .i64 x.mn):=hcc 8 _ (by simp[Fo,r5])
  have c9:cs[off+e*10+9]? =some (.int .i64 x.mx):=hcc 9 _ (by simp[Fo,r6])
  have w5:D0 (some (.cells cs ty fr0)) (off+e*10+1) 5=some #[.int .i64 r.w.op,.string r.w.nm,.string r.w.tx,.int .i64 r.w.n,.slice r.w.p r.w.len r.w.cap]:=by
   have h:=TT hcr (k:=1) (n:=5) (by decide)
   simpa[Fo]using h
  have c0':cs'[off'+e*10]? =some (.string x.nm):=hcc' 0 _ (by simp[Fo,s1])
  have c6':cs'[off'+e*10+6]? =some (.int .i64 x.bps):=hcc' 6 _ (by simp[Fo,s3])
  have c7':cs'[off'+e*10+7]? =some (.int .i64 x.fx):=hcc' 7 _ (by simp[Fo,s4])
  have c8':cs'[off'+e*10+8]? =some (.int .i64 x.mn):=hcc' 8 _ (by simp[Fo,s5])
  have c9':cs'[off'+e*10+9]? =some (.int .i64 x.mx):=hcc' 9 _ (by simp[Fo,s6])
  have w5':D0 (some (.cells cs' ty' fr0')) (off'+e*10+1) 5=some #[.int .i64 s.w.op,.string s.w.nm,.string s.w.tx,.int .i64 s.w.n,.slice s.w.p s.w.len s.w.cap]:=by
   have h:=TT hcr' (k:=1) (n:=5) (by decide)
   simpa[Fo]using h
  have iv:=oP r2 s2 A (SubA.refl _)
  simp only[C5,Ck]at iv
  refine Ah.intro (by kernel_rfl) ?_
  intro ν fr;have nuE:=fr.nu
  simp (maxDischargeDepth:=16) only[AX,↓AW,simprocAttr,forall_const,nuE,fr.2,M9,lt,li,hbk,hbk',c0,c6,c7,c8,c9,w5,c0',c6',c7',c8',c9',w5',iv,we]
  exact Ah.weak (ihl (e+1) hd' (by omega)) (by simp only[BW,Ab,Nat.reduceEqDiff,↓reduceIte,reduceCtorEq,Nat.reduceAdd,and_self,and_true]) (SubA.refl _)
theorem oY(A:AH)(us:List Fu)(p q:Option Addr)(cap qcap:Nat)(hl:us.length≤140737488355328)(hR:gy A us p)(hQ:gy A us q)(B_:AH)(hB_:SubA A B_):B5 Tryz.prog 9 #[.slice p us.length cap,.slice q us.length qcap] B_=some (.bool true):=Bk (Ct (by kernel_rfl) (o6 A us p q cap qcap hl hR hQ) hB_)
end Go.Proofs.YtfphceknmgadgaaGreatDoor
namespace Go.Proofs.YtfphceknmgadgaaGreatDoor
open Go.Vm
set_option maxHeartbeats 8000000
set_option maxRecDepth 20000
theorem re(A:AH):B5 Tryz.prog 14 #[.string ⟨#[49,46,50,37]⟩] A=some (.tuple #[.int .i64 120,.int .i64 0]):=by
 have h:=Ce ⟨#[49,46,50,37]⟩ (by decide) A
 rw[show Ff (ByteArray.toList ⟨#[49,46,50,37]⟩)=(120,0) by decide+kernel]at h
 exact h
theorem rX(A:AH):B5 Tryz.prog 14 #[.string ⟨#[49,46,50,48,37]⟩] A=some (.tuple #[.int .i64 0,.int .i64 2]):=by
 have h:=Ce ⟨#[49,46,50,48,37]⟩ (by decide) A
 rw[show Ff (ByteArray.toList ⟨#[49,46,50,48,37]⟩)=(0,2) by decide+kernel]at h
 exact h
theorem rd(A:AH):B5 Tryz.prog 14 #[.string ⟨#[49,48,48,46,48,49,37]⟩] A=some (.tuple #[.int .i64 0,.int .i64 4]):=by
 have h:=Ce ⟨#[49,48,48,46,48,49,37]⟩ (by decide) A
 rw[show Ff (ByteArray.toList ⟨#[49,48,48,46,48,49,37]⟩)=(0,4) by decide+kernel]at h
 exact h
theorem rZ{A B:AH}(hT:Hq A)(hB:SubA A B):B5 Tryz.prog 15 #[.int .i64 5] B=some (.string ⟨#[48,46,48,53,37]⟩):=by
 have h:=mh A hT 5 B hB
 rw[show bs (oH 5)=⟨#[48,46,48,53,37]⟩ by decide+kernel]at h
 exact h
theorem eZ(A:AH)(hT:Hq A):AM Tryz.prog 6 #[] A (fun u_ A_=>u_=.bool true∧SubA A A_):=by
 refine AR ⟨Tryz.prog,6,Tryz.f6,123,[0,1,2,3,5,6,8,9,10,11,13,15],⟨[7],none⟩,[],_⟩ rfl (args:=[]) Tryz.func6 rfl (by kernel_rfl) Tryz.ntmps6 (by simp) (by kernel_rfl) ?_
 intro ν fr;have nuE:=fr.nu
 simp (maxDischargeDepth:=16) only[AX,↓AW,simprocAttr,forall_const,nuE,fr.2,M9]
 clear nuE fr
 refine AM.newX (Pm eo (by decide)) (SubA.nil _) ?_
 rintro v1 B1 ⟨e,at_,us,p1,k1,hP,h64,hc1,rfl,rs,hrl,hS,hall⟩ hd1
 obtain⟨rfl,rfl,rfl⟩:=hP.det qn
 refine⟨B1++A,SubA.refl _, ?_⟩
 clear hP h64
 simp only[List.length_cons,List.length_nil,Nat.zero_add]at hc1 hrl⊢
 intro ν fr;have nuE:=fr.nu
 simp (maxDischargeDepth:=16) only[AX,↓AW,simprocAttr,forall_const,nuE,fr.2,M9]
 clear nuE fr
 refine AM.newX (Pm fN (by decide)) (SubA.nil _) ?_
 rintro v2 B2 ⟨e,at_,us,p2,k2,hP,h64,hc2,rfl,_⟩ hd2
 obtain⟨rfl,rfl,rfl⟩:=hP.det qD
 refine⟨B1++A,hd2.right, ?_⟩
 clear hP h64
 simp only[List.length_nil]
 intro ν fr;have nuE:=fr.nu
 simp (maxDischargeDepth:=16) only[AX,↓AW,simprocAttr,forall_const,nuE,fr.2,M9]
 clear nuE fr
 refine AM.newX (Pm mw (by decide)) (SubA.nil _) ?_
 rintro v3 B3 ⟨e,at_,us,p3,k3,hP,h64,hc3,rfl,_⟩ hd3
 obtain⟨rfl,rfl,rfl⟩:=hP.det qr
 refine⟨B1++A,hd3.right, ?_⟩
 clear hP h64
 obtain⟨r,rfl⟩: ∃r,rs=[r]:=List.length_eq_one_iff.1 hrl
 obtain⟨bk,off,cs,ty,fr0,hp0,hbk,hcr,hcc⟩:=hS.at (show [r][0]? =some r from rfl)
 obtain⟨r1,r2,r3,r4,r5,r6⟩:=hall 0 jy r rfl rfl
 subst hp0
 have hbk':Vm.AA (B1++A) bk=some (.cells cs ty fr0):=SubA.left B1 A _ _ hbk
 have c0:cs[off]? =some (.string ⟨#[102,111,111,100]⟩):=by have:=hcc 0 _ (by simp[Fo,r1];rfl);simpa[jy]using this
 have c6:cs[off+6]? =some (.int .i64 105):=by have:=hcc 6 _ (by simp[Fo,r3];rfl);simpa[jy]using this
 have c7:cs[off+7]? =some (.int .i64 10):=by have:=hcc 7 _ (by simp[Fo,r4];rfl);simpa[jy]using this
 have c8:cs[off+8]? =some (.int .i64 0):=by have:=hcc 8 _ (by simp[Fo,r5];rfl);simpa[jy]using this
 have c9:cs[off+9]? =some (.int .i64 500):=by have:=hcc 9 _ (by simp[Fo,r6];rfl);simpa[jy]using this
 have v5:=rZ hT hd1.right
 simp only[List.length_nil]
 intro ν fr;have nuE:=fr.nu
 simp (maxDischargeDepth:=16) only[AX,↓AW,simprocAttr,forall_const,nuE,fr.2,M9,re,rX,rd,hbk',c0,c6,c7,c8,c9,v5]
 exact hd1.right
theorem VA(A:AH)(hT:Hq A)(B_:AH)(hB_:SubA A B_):B5 Tryz.prog 6 #[] B_=some (.bool true):=Bk (Ct (by kernel_rfl) (eZ A hT) hB_)
end Go.Proofs.YtfphceknmgadgaaGreatDoor
