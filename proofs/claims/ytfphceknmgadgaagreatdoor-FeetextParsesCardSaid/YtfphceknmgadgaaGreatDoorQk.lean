/-
The reference parser of expressions: small functions; names of rules.
Conditions: none.
-/
import Derived.Test.YtfphceknmgadgaaGreatDoorQc
import Derived.Test.YtfphceknmgadgaaGreatDoorQg
import Derived.Test.YtfphceknmgadgaaGreatDoorQi
set_option linter.unusedSimpArgs false
set_option linter.unusedVariables false
namespace Go.Proofs.YtfphceknmgadgaaGreatDoor
open Go.Vm
set_option maxHeartbeats 1000000
set_option maxRecDepth 20000
theorem DG:type_of% (An @BC (An @BU (An @BS (An @Aw (An @BB (An @BT (An @Bn (An @BN (An @CA (An @CS (An @B9 (An @CR (An @Cm (An @CT (An @CC (An @Bp (An @Bq (An @CQ (An @Be (An @Br (An @CB (An @Bo (An @Bx (An @AU (An @AQ (An @Am (An @Ap (An @Ag (An @BG (An @Aj (An @At (An @Au (An @Ax (An @A4 (An @A5 (An @A7 (An @BA @Ce))))))))))))))))))))))))))))))))))))):=⟨@BC,@BU,@BS,@Aw,@BB,@BT,@Bn,@BN,@CA,@CS,@B9,@CR,@Cm,@CT,@CC,@Bp,@Bq,@CQ,@Be,@Br,@CB,@Bo,@Bx,@AU,@AQ,@Am,@Ap,@Ag,@BG,@Aj,@At,@Au,@Ax,@A4,@A5,@A7,@BA,@Ce⟩
theorem Sv:type_of% (An @AF (An @AN (An @AO (An @AE (An @AG (An @AP (An @Aa (An @AL (An @Af (An @Aq (An @Ai (An @Ar (An @BM (An @Az (An @A6 (An @BD (An @BQ (An @Fl @Ox)))))))))))))))))):=⟨@AF,@AN,@AO,@AE,@AG,@AP,@Aa,@AL,@Af,@Aq,@Ai,@Ar,@BM,@Az,@A6,@BD,@BQ,@Fl,@Ox⟩
theorem fa(s:ByteArray)(hs:s.size≤100000)(h:AY):CallsH Tryz.prog 22 #[.string s] h (QD (AV s) h):=by
 suffices H: ∀h0,h0=h→CallsH Tryz.prog 22 #[.string s] h (QD (AV s) h0) from H h rfl
 intro h0 hh0
 have g2:Grew h0 h:=by rw[hh0];exact .refl _
 clear hh0
 refine BO ⟨Tryz.prog,22,Tryz.f22,43,[0,2,3,4,5,6,7,8,9],_⟩ (args:=[_]) Tryz.func22 rfl Tryz.ntmps22 (by simp) ?_
 by_cases h4:(4000:Int)<(s.size:Int)
 ·simp only[BE,↓Cl,simprocAttr,forall_const,Sv,h4]
  have:4000<s.size:=by omega
  refine⟨.slice none 0 0, ?_, ?_,g2⟩
  ·simp only[AV,this,if_true];rfl
  ·simp only[AV,this,if_true];exact Dn.nil ..
 have sk0: ∀h Q,Bj Tryz.prog 63 #[.string s,.int .i64 0] h Q=Q (.returned (.int .i64 ((Eg false s.toList:Nat):Int))) h:=fun h Q=>by
  have e:=Az s 0 (by omega) hs h Q
  simp only[List.drop_zero,Nat.zero_add]at e
  exact e
 simp only[BE,↓Cl,simprocAttr,forall_const,Sv,h4,sk0]
 clear sk0
 have hM:P0 s (AV s) [] (s.size+1) (Eg false s.toList):=by
  have: ¬4000<s.size:=by omega
  refine⟨by omega, ?_⟩
  simp only[AV,this,if_false,Nat.zero_add,List.drop_zero,List.nil_append]
  split
  ·rfl
  ·rename_i h5
   have hz: ∀m i,(CW s m i).1≠0→(CW s m i).2.2=[]:=by
    intro m
    induction m with
    |zero=>intro i h;simp[CW]at h
    | succ m ih=>
     intro i
     simp only[CW]
     split
     ·intro h;simp at h
     ·split
      ·intro _;rfl
      ·intro h;simp only at h;simp only[h,if_false]
   rw[←hz _ _ h5]
 have hiz:Eg false s.toList≤s.size:=by have:=FN s 0 (by omega);simpa using this
 have hlen:([]:List LR).length≤Eg false s.toList:=by simp
 generalize hm:s.size+1=m at hM
 clear hm
 obtain⟨v,hv,own⟩: ∃v,v=Value.slice none 0 0∧Dn h h0.size 51 4 v ([]:List LR).length (Dg []):=⟨_,rfl,Dn.nil ..⟩
 rw[show(5,some (Value.slice none 0 0))=(5,some v) by rw[hv]]
 clear hv
 generalize Eg false s.toList=i at*
 generalize hacc:([]:List LR)=acc at own hM hlen
 clear hacc
 induction m generalizing v i acc h with
 |zero=>have:=hM.1;omega
 | succ m ih=>
  refine Bh.intro ?_
  by_cases hlt:(i:Int)<(s.size:Int)
  ·simp only[BE,↓Cl,simprocAttr,forall_const,Sv,hlt]
   refine(PW s i (by omega) hs h).mono ?_
   rintro _ h3 ⟨rfl,g3⟩
   by_cases he:(B0 s i).e=0
   ·simp only[BE,↓Cl,simprocAttr,forall_const,Sv,LR.val,he,rA]
    obtain⟨m',hm',hN⟩:=hM.next (by omega) he
    obtain rfl:m'=m:=by omega
    have hnx:=Ei s i (by omega) he
    have g5:=((g2.trans g3).pushed (.cells (LR.cells (B0 s i)).toArray 51))
    have own3:=((own.grew g3).grew (.push h3 (.cells (LR.cells (B0 s i)).toArray 51))).grew (.push _ (.cells (LR.cells (B0 s i)).toArray 51))
    refine Gy (news:=LR.cells (B0 s i)) (m:=1) O8 PA rfl (by decide) own3 rfl (K9 _ _ (by simp) _ _ _) (by simp[LR.cells,Value.oneCell']) (by simp[maxLen];omega) (by omega) (by have:=g5.le;simp at this ⊢;omega) ?_
    intro v' h4' o' gB _
    have g4:Grew h0 h4':=gB.grew (g5.pushed _) own3.row
    have hnx':=hnx.2
    simp only[BE,↓Cl,simprocAttr,forall_const,Sv,hnx',hs]
    refine Bh.weak (ih h4' g4 v' _ (FN s _ hnx') (acc++[B0 s i]) ?_ hN ?_) (by simp only[BW,Ab,Nat.reduceEqDiff,↓reduceIte,reduceCtorEq,Nat.reduceAdd,and_self,and_true])
    rotate_left
    ·simp;omega
    ·have e1:(acc++[B0 s i]).length=acc.length+1:=by simp
     have e2:Dg (acc++[B0 s i])=Dg acc++(B0 s i).cells:=by simp[Dg]
     rw[e1,e2]
     exact o'
   ·simp only[BE,↓Cl,simprocAttr,forall_const,Sv,LR.val,he]
    have hR:=hM.err (by omega) he
    refine⟨.slice none 0 0, ?_, ?_, ?_⟩
    ·rw[hR]
    ·rw[hR];exact Dn.nil ..
    ·exact(g2.trans g3).pushed _
  ·simp only[BE,↓Cl,simprocAttr,forall_const,Sv,hlt,rA]
   have hR:=hM.last hiz (by omega)
   have own3:=own.grew (.push h (.cells (LR.cells (GD s)).toArray 51))
   refine Gy (news:=LR.cells (GD s)) (m:=1) O8 PA rfl (by decide) own3 rfl (K9 _ _ (by simp) _ _ _) (by simp[LR.cells,Value.oneCell']) (by simp[maxLen];omega) (by omega) (by have:=g2.le;simp;omega) ?_
   intro v' h4' o' gB _
   have g4:Grew h0 h4':=gB.grew (g2.pushed _) own3.row
   simp only[BE,↓Cl,simprocAttr,forall_const,Sv]
   refine⟨v', ?_, ?_,g4⟩
   ·rw[hR];rfl
   ·have e1:(acc++[GD s]).length=acc.length+1:=by simp
    have e2:Dg (acc++[GD s])=Dg acc++(GD s).cells:=by simp[Dg]
    rw[hR,e1,e2]
    exact o'
end Go.Proofs.YtfphceknmgadgaaGreatDoor
namespace Go.Vm
theorem AM.ownX{P:Program}{g:FuncId}{args:Array Value}{E Y:AH}{K0 K:Value→AH→Prop}(hc:AM P g args E K0)(hd:Dis E Y)
  (hk: ∀v D,K0 v D→Dis D Y→ ∃F,SubA F D∧K v (Y++F)):AM P g args (Y++E) K:=
 AM.toX hc hd.symm.right Y (SubA.left _ _) hd fun v D h dD=>by
  obtain⟨F,h1,h2⟩:=hk v D h dD
  exact⟨_,SubA.front dD h1,h2⟩
end Go.Vm
namespace Go.Proofs.YtfphceknmgadgaaGreatDoor
open Go.Vm
set_option maxHeartbeats 4000000
set_option maxRecDepth 20000
def Cp(lp:Option Addr)(lcap n i:Nat)(e w:Int):Obj:=.cells #[.slice lp n lcap,.int .i64 (i:Int),.int .i64 e,.int .i64 w] 110
def RS(rb:Nat)(lp:Option Addr)(lcap:Nat)(L:List LR)(i:Nat)(e w:Int)(A:AH):AH:=(rb,Cp lp lcap L.length i e w)::A
structure RsOk(rb:Nat)(lp:Option Addr)(L:List LR)(A:AH):Prop where
 nr:Vm.AA A rb=none
 hL:ES LR.cells 4 A lp L
 hl:L.length≤100000
 he:Po L
theorem A8{rb:Nat}{lp:Option Addr}{lcap:Nat}{L:List LR}{i i':Nat}{e e' w w':Int}{A:AH}{n:Nat}(h:Vm.AA (RS rb lp lcap L i e w A) n=none):Vm.AA (RS rb lp lcap L i' e' w' A) n=none:=by
 simp only[RS,Vm.AA]at h⊢
 split at h
 ·cases h
 ·rename_i hne;rw[if_neg hne];exact h
theorem DB{rb:Nat}{lp:Option Addr}{lcap:Nat}{L:List LR}{i:Nat}{e w:Int}{A:AH}{n:Nat}(h:Vm.AA (RS rb lp lcap L i e w A) n=none):((n=rb)=False)∧((rb=n)=False):=
 BF h (show Vm.AA (RS rb lp lcap L i e w A) rb=some (Cp lp lcap L.length i e w) by simp[RS,Vm.AA])
theorem CL{rb:Nat}{lp:Option Addr}{lcap i:Nat}{L:List LR}{e w:Int}{A:AH}(hp:RsOk rb lp L A):SubA A (RS rb lp lcap L i e w A):=SubA.skip hp.nr (SubA.refl _)
structure AtL(rb:Nat)(A:AH)(i:Nat)(x:LR)(bk off:Nat)(cs:Array Value)(ty:TypeId)(fr0:Nat×Nat):Prop where
 hb:Vm.AA A bk=some (.cells cs ty fr0)
 n1:(rb=bk)=False
 n2:(bk=rb)=False
 hc:D0 (some (.cells cs ty fr0)) (off+i*4) 4=some #[.int .i64 x.k,.string x.t,.int .i64 x.n,.int .i64 (x.a:Int)]
 c0:cs[off+i*4]? =some (.int .i64 x.k)
 c1:cs[off+i*4+1]? =some (.string x.t)
 c2:cs[off+i*4+2]? =some (.int .i64 x.n)
 c3:cs[off+i*4+3]? =some (.int .i64 (x.a:Int))
theorem RsOk.at{rb:Nat}{lp:Option Addr}{L:List LR}{A:AH}(hp:RsOk rb lp L A){i:Nat}{x:LR}(hx:L[i]? =some x): ∃bk off cs ty fr0,lp=some ⟨bk,off,none⟩∧AtL rb A i x bk off cs ty fr0:=by
 obtain⟨bk,off,cs,ty,fr0,hp0,hbk,hcr,hcc⟩:=hp.hL.at hx
 have hn:=BF hp.nr hbk
 exact⟨bk,off,cs,ty,fr0,hp0,hbk,hn.1,hn.2,hcr,hcc 0 _ rfl,hcc 1 _ rfl,hcc 2 _ rfl,hcc 3 _ rfl⟩
def E8(e e2:Int):Int:=if e=0 then e2 else e
def G3(e w:Int)(x:LR):Int:=if e=0 then(x.a:Int)else w
theorem F2(rb:Nat)(lp:Option Addr)(lcap:Nat)(L:List LR)(A:AH)(hp:RsOk rb lp L A)(i:Nat)(x:LR)(hx:L[i]? =some x)(e w e2:Int):AM Tryz.prog 92 #[.pointer (some ⟨rb,0,none⟩),.int .i64 e2] (RS rb lp lcap L i e w A) (fun u_ A_=>u_=.tuple #[]∧SubA (RS rb lp lcap L i (E8 e e2) (G3 e w x) A) A_):=by
 refine AR ⟨Tryz.prog,92,Tryz.f92,27,[0,1],⟨[],none⟩,[(2,.p [(0,0),(1,0),(2,0),(3,0),(4,0),(5,0),(6,0),(7,0),(8,0),(9,0),(10,0),(11,0),(12,0),(13,0),(14,2)])],_⟩ rfl (args:=[_,_]) Tryz.func92 rfl (by kernel_rfl) Tryz.ntmps92 (by simp) (by kernel_rfl) ?_
 intro ν fr;have nuE:=fr.nu
 obtain⟨bk,off,cs,ty,fr0,rfl,h⟩:=hp.at hx
 have hlt:=(List.getElem?_eq_some_iff.1 hx).1
 have lt:((i:Int)<(L.length:Int))=True:=eq_true (by omega)
 have li:((i:Int)<0)=False:=eq_false (by omega)
 simp only[RS,Cp]
 by_cases he:e=0
 ·subst he
  simp (maxDischargeDepth:=16) only[AX,↓AW,simprocAttr,forall_const,nuE,fr.2,DG,lt,li,h.hb,h.n1,h.n2,h.c0,h.c1,h.c2,h.c3,h.hc]
  exact⟨rfl,by unfold E8 G3;simp only[if_true];exact SubA.refl _⟩
 ·simp (maxDischargeDepth:=16) only[AX,↓AW,simprocAttr,forall_const,nuE,fr.2,DG,eq_false he]
  exact⟨rfl,by unfold E8 G3;rw[if_neg he,if_neg he];exact SubA.refl _⟩
def E7(e:Int)(x:LR)(k:Int)(t:ByteArray):Bool:=decide (e=0)&&BX x k t
theorem CZ(rb:Nat)(lp:Option Addr)(lcap:Nat)(L:List LR)(A:AH)(hp:RsOk rb lp L A)(i:Nat)(x:LR)(hx:L[i]? =some x)(e w k:Int)(t:ByteArray):AM Tryz.prog 113 #[.pointer (some ⟨rb,0,none⟩),.int .i64 k,.string t] (RS rb lp lcap L i e w A) (fun u_ A_=>u_=.bool (E7 e x k t)∧SubA (RS rb lp lcap L (if E7 e x k t=true then i+1 else i) e w A) A_):=by
 refine AR ⟨Tryz.prog,113,Tryz.f113,49,[0,1,2,6],⟨[],none⟩,[(1,.q false)],_⟩ rfl (args:=[_,_,_]) Tryz.func113 rfl (by kernel_rfl) Tryz.ntmps113 (by simp) (by kernel_rfl) ?_
 intro ν fr;have nuE:=fr.nu
 obtain⟨bk,off,cs,ty,fr0,rfl,h⟩:=hp.at hx
 have hlt:=(List.getElem?_eq_some_iff.1 hx).1
 have hl:=hp.hl
 have lt:((i:Int)<(L.length:Int))=True:=eq_true (by omega)
 have li:((i:Int)<0)=False:=eq_false (by omega)
 have we:IntKind.i64.wrap ((i:Int)+1)=((i+1:Nat):Int):=by rw[Ak (by omega) (by omega)];omega
 simp only[RS,Cp]
 by_cases he:e=0
 rotate_left
 ·have hn:(e !=0)=true:=by simp[he]
  have hb:E7 e x k t=false:=by simp[E7,he]
  rw[hb]
  simp (maxDischargeDepth:=16) only[AX,↓AW,simprocAttr,forall_const,nuE,fr.2,DG,hn]
 subst he
 by_cases hk:x.k=k
 rotate_left
 ·have hn:(x.k !=k)=true:=by simp[hk]
  have hb:E7 0 x k t=false:=by simp[E7,BX,hk]
  rw[hb]
  simp (maxDischargeDepth:=16) only[AX,↓AW,simprocAttr,forall_const,nuE,fr.2,DG,lt,li,h.hb,h.n1,h.n2,h.c0,h.c1,h.c2,h.c3,h.hc,hn]
 have hn:(x.k !=k)=false:=by simp[hk]
 by_cases ht:x.t.toList=t.toList
 ·have hm:(x.t.toList !=t.toList)=false:=by simp[ht]
  have hb:E7 0 x k t=true:=by simp[E7,BX,hk,ht]
  rw[hb]
  simp (maxDischargeDepth:=16) only[AX,↓AW,simprocAttr,forall_const,nuE,fr.2,DG,lt,li,h.hb,h.n1,h.n2,h.c0,h.c1,h.c2,h.c3,h.hc,hn,hm,eq_true ht,we]
 ·have hm:(x.t.toList !=t.toList)=true:=by simp[ht]
  have hb:E7 0 x k t=false:=by simp[E7,BX,hk,ht]
  rw[hb]
  simp (maxDischargeDepth:=16) only[AX,↓AW,simprocAttr,forall_const,nuE,fr.2,DG,lt,li,h.hb,h.n1,h.n2,h.c0,h.c1,h.c2,h.c3,h.hc,hn,hm,eq_false ht]
def Da(e:Int)(c:Bool)(i:Nat):Nat:=if e=0∧c=true then i+1 else i
def EP(e:Int)(c:Bool):Int:=if e=0 then(if c=true then 0 else 2)else e
def D9(e w:Int)(c:Bool)(x:LR):Int:=if e=0 then(if c=true then w else(x.a:Int))else w
theorem Gu(rb:Nat)(lp:Option Addr)(lcap:Nat)(L:List LR)(A:AH)(hp:RsOk rb lp L A)(i:Nat)(x:LR)(hx:L[i]? =some x)(e w k:Int)(t:ByteArray):AM Tryz.prog 152 #[.pointer (some ⟨rb,0,none⟩),.int .i64 k,.string t] (RS rb lp lcap L i e w A) (fun u_ A_=>u_=.tuple #[]∧SubA (RS rb lp lcap L (Da e (BX x k t) i) (EP e (BX x k t)) (D9 e w (BX x k t) x) A) A_):=by
 refine AR ⟨Tryz.prog,152,Tryz.f152,13,[0,1,2],⟨[113,92],none⟩,[],_⟩ rfl (args:=[_,_,_]) Tryz.func152 rfl (by kernel_rfl) Tryz.ntmps152 (by simp) (by kernel_rfl) ?_
 intro ν fr;have nuE:=fr.nu
 simp (maxDischargeDepth:=16) only[AX,↓AW,simprocAttr,forall_const,nuE,fr.2,DG]
 refine AM.useX (CZ rb lp lcap L A hp i x hx e w k t) (SubA.refl _) [] (SubA.nil _) (fun x hx=>absurd rfl hx) ?_
 rintro v D ⟨rfl,hD⟩ dD
 refine⟨_,hD, ?_⟩
 rw[List.append_nil]
 clear hD dD D nuE fr
 intro ν fr;have nuE:=fr.nu
 by_cases he:e=0
 ·subst he
  cases hc:BX x k t with
  |true=>
   have hb:E7 0 x k t=true:=by simp[E7,hc]
   rw[hb]
   simp (maxDischargeDepth:=16) only[AX,↓AW,simprocAttr,forall_const,nuE,fr.2,DG]
   exact⟨rfl,SubA.refl _⟩
  |false=>
   have hb:E7 0 x k t=false:=by simp[E7,hc]
   rw[hb]
   simp only[Bool.false_eq_true,if_false]
   simp (maxDischargeDepth:=16) only[AX,↓AW,simprocAttr,forall_const,nuE,fr.2,DG]
   refine AM.useX (F2 rb lp lcap L A hp i x hx 0 w 2) (SubA.refl _) [] (SubA.nil _) (fun x hx=>absurd rfl hx) ?_
   rintro v D ⟨rfl,hD⟩ dD
   refine⟨_,hD, ?_⟩
   rw[List.append_nil]
   clear hD dD D nuE fr
   intro ν fr;have nuE:=fr.nu
   simp (maxDischargeDepth:=16) only[AX,↓AW,simprocAttr,forall_const,nuE,fr.2,DG]
   exact⟨rfl,by simp only[E8,G3,Da,EP,D9,if_true,Bool.false_eq_true,if_false,and_false];exact SubA.refl _⟩
 ·have hb:E7 e x k t=false:=by simp[E7,he]
  rw[hb]
  simp only[Bool.false_eq_true,if_false]
  simp (maxDischargeDepth:=16) only[AX,↓AW,simprocAttr,forall_const,nuE,fr.2,DG]
  refine AM.useX (F2 rb lp lcap L A hp i x hx e w 2) (SubA.refl _) [] (SubA.nil _) (fun x hx=>absurd rfl hx) ?_
  rintro v D ⟨rfl,hD⟩ dD
  refine⟨_,hD, ?_⟩
  rw[List.append_nil]
  clear hD dD D nuE fr
  intro ν fr;have nuE:=fr.nu
  simp (maxDischargeDepth:=16) only[AX,↓AW,simprocAttr,forall_const,nuE,fr.2,DG]
  exact⟨rfl,by simp only[E8,G3,Da,EP,D9,if_neg he,if_neg (show¬(e=0∧BX x k t=true) from fun h=>he h.1)];exact SubA.refl _⟩
theorem fJ(s:ByteArray):AM Tryz.prog 123 #[.string s] [] (fun u_ _=>u_=.bool (JS s)):=by
 refine AR ⟨Tryz.prog,123,Tryz.f123,17,[0,2,3],⟨[],none⟩,[],_⟩ rfl (args:=[_]) Tryz.func123 rfl (by kernel_rfl) Tryz.ntmps123 (by simp) (by kernel_rfl) ?_
 intro ν fr;have nuE:=fr.nu
 simp (maxDischargeDepth:=16) only[AX,↓AW,simprocAttr,forall_const,nuE,fr.2,DG]
 unfold JS
 repeat' split
 all_goals simp_all
theorem Bs(s:ByteArray)(A_:AH):B5 Tryz.prog 123 #[.string s] A_=some (.bool (JS s)):=Bk (CN (by kernel_rfl) (fJ s))
theorem Wx(rb:Nat)(lp:Option Addr)(lcap:Nat)(L:List LR)(A:AH)(hp:RsOk rb lp L A)(i:Nat)(x:LR)(hx:L[i]? =some x)(e w:Int):AM Tryz.prog 166 #[.pointer (some ⟨rb,0,none⟩)] (RS rb lp lcap L i e w A) (fun u_ A_=>u_=.string (if e=0∧FA x=true then x.t else eB)∧SubA (RS rb lp lcap L (Da e (FA x) i) (EP e (FA x)) (D9 e w (FA x) x) A) A_):=by
 refine AR ⟨Tryz.prog,166,Tryz.f166,38,[0,2,3],⟨[92],none⟩,[(1,.p [(0,0),(1,0),(2,0),(3,0),(4,0),(5,0),(6,0),(7,0),(8,0),(9,0),(10,1),(11,2)])],_⟩ rfl (args:=[_]) Tryz.func166 rfl (by kernel_rfl) Tryz.ntmps166 (by simp) (by kernel_rfl) ?_
 intro ν fr;have nuE:=fr.nu
 obtain⟨bk,off,cs,ty,fr0,rfl,h⟩:=hp.at hx
 have hlt:=(List.getElem?_eq_some_iff.1 hx).1
 have hl:=hp.hl
 have lt:((i:Int)<(L.length:Int))=True:=eq_true (by omega)
 have li:((i:Int)<0)=False:=eq_false (by omega)
 have we:IntKind.i64.wrap ((i:Int)+1)=((i+1:Nat):Int):=by rw[Ak (by omega) (by omega)];omega
 have f0:=fr.2 0
 obtain⟨m1,m2⟩:=DB f0
 obtain⟨m3,m4⟩:=BF ((CL hp).none f0) h.hb
 have hor:FA x=true∨((x.k !=1)=true∧FA x=false)∨((x.k !=1)=false∧JS x.t=true∧FA x=false):=by
  by_cases h1:x.k=1
  ·cases h2:JS x.t with
   |true=>exact .inr (.inr ⟨by simp[h1],rfl,by simp[FA,h2]⟩)
   |false=>exact .inl (by simp[FA,h1,h2])
  ·exact .inr (.inl ⟨by simp[h1],by simp[FA,h1]⟩)
 simp only[RS,Cp]at f0⊢
 have sf:=fun(o:Obj)=>eq_true (SubA.fresh (o:=o) f0 (SubA.refl _))
 rcases hor with hn|⟨hk,hn⟩|⟨hk,hr,hn⟩
 ·have hk:(x.k !=1)=false:=by simp[FA]at hn ⊢;exact hn.1
  have hr:JS x.t=false:=by simp[FA]at hn;exact hn.2
  rw[hn]
  by_cases he:e=0
  ·subst he
   simp (maxDischargeDepth:=16) only[AX,↓AW,simprocAttr,forall_const,nuE,fr.2,DG,Bs,lt,li,h.hb,h.n1,h.n2,h.c0,h.c1,h.c2,h.c3,h.hc,m1,m2,m3,m4,hk,hr,we,sf]
   simp only[Da,EP,D9,and_self,if_true]
   exact SubA.fresh (AK m2 ((CL (i:=i) (e:=0) (w:=w) hp).none f0)) (SubA.refl _)
  ·have hen:(e !=0)=true:=by simp[he]
   simp (maxDischargeDepth:=16) only[AX,↓AW,simprocAttr,forall_const,nuE,fr.2,DG,Bs,lt,li,h.hb,h.n1,h.n2,h.c0,h.c1,h.c2,h.c3,h.hc,m1,m2,m3,m4,hk,hr,hen,eq_false he,we,sf]
   simp only[Da,EP,D9,if_neg he,he,false_and,if_false]
   first|exact⟨rfl,SubA.fresh f0 (SubA.refl _)⟩|exact SubA.fresh f0 (SubA.refl _)
 ·rw[hn]
  simp (maxDischargeDepth:=16) only[AX,↓AW,simprocAttr,forall_const,nuE,fr.2,DG,Bs,lt,li,h.hb,h.n1,h.n2,h.c0,h.c1,h.c2,h.c3,h.hc,m1,m2,m3,m4,hk,sf]
  have dst_:True:=(by simp[nuE]);generalize ν 0=n3 at dst_  f0 m1 m2 m3 m4⊢
  clear nuE fr sf
  refine AM.ownX (Y:=[(n3,_)]) (F2 rb (some ⟨bk,off,none⟩) lcap L A hp i x hx e w 2) (Dis.one f0).symm ?_
  rintro v D ⟨rfl,hD⟩ dD
  refine⟨_,hD, ?_⟩
  clear hD dD D
  simp only[RS,Cp,List.cons_append,List.nil_append]
  intro ν fr;have nuE:=And.intro (fr.mem (b:=n3) (by simp)) (fr.nu)
  by_cases he:e=0
  ·subst he
   have hen:(E8 0 2 !=0)=true:=by decide
   simp (maxDischargeDepth:=16) only[AX,↓AW,simprocAttr,forall_const,nuE,fr.2,DG,Bs,m1,m2,hen]
   simp only[Da,EP,D9,E8,G3,if_true,Bool.false_eq_true,and_false,if_false]
   first|exact⟨rfl,SubA.fresh (AK m2 ((CL (i:=i) (e:=0) (w:=w) hp).none f0)) (SubA.refl _)⟩|exact SubA.fresh (AK m2 ((CL (i:=i) (e:=0) (w:=w) hp).none f0)) (SubA.refl _)
  ·have hen:(E8 e 2 !=0)=true:=by simp[E8,he]
   simp (maxDischargeDepth:=16) only[AX,↓AW,simprocAttr,forall_const,nuE,fr.2,DG,Bs,m1,m2,hen]
   simp only[Da,EP,D9,E8,G3,if_neg he,he,false_and,if_false]
   first|exact⟨rfl,SubA.fresh f0 (SubA.refl _)⟩|exact SubA.fresh f0 (SubA.refl _)
 ·rw[hn]
  simp (maxDischargeDepth:=16) only[AX,↓AW,simprocAttr,forall_const,nuE,fr.2,DG,Bs,lt,li,h.hb,h.n1,h.n2,h.c0,h.c1,h.c2,h.c3,h.hc,m1,m2,m3,m4,hk,hr,sf]
  have dst_:True:=(by simp[nuE]);generalize ν 0=n3 at dst_  f0 m1 m2 m3 m4⊢
  clear nuE fr sf
  refine AM.ownX (Y:=[(n3,_)]) (F2 rb (some ⟨bk,off,none⟩) lcap L A hp i x hx e w 2) (Dis.one f0).symm ?_
  rintro v D ⟨rfl,hD⟩ dD
  refine⟨_,hD, ?_⟩
  clear hD dD D
  simp only[RS,Cp,List.cons_append,List.nil_append]
  intro ν fr;have nuE:=And.intro (fr.mem (b:=n3) (by simp)) (fr.nu)
  by_cases he:e=0
  ·subst he
   have hen:(E8 0 2 !=0)=true:=by decide
   simp (maxDischargeDepth:=16) only[AX,↓AW,simprocAttr,forall_const,nuE,fr.2,DG,Bs,m1,m2,hen]
   simp only[Da,EP,D9,E8,G3,if_true,Bool.false_eq_true,and_false,if_false]
   first|exact⟨rfl,SubA.fresh (AK m2 ((CL (i:=i) (e:=0) (w:=w) hp).none f0)) (SubA.refl _)⟩|exact SubA.fresh (AK m2 ((CL (i:=i) (e:=0) (w:=w) hp).none f0)) (SubA.refl _)
  ·have hen:(E8 e 2 !=0)=true:=by simp[E8,he]
   simp (maxDischargeDepth:=16) only[AX,↓AW,simprocAttr,forall_const,nuE,fr.2,DG,Bs,m1,m2,hen]
   simp only[Da,EP,D9,E8,G3,if_neg he,he,false_and,if_false]
   first|exact⟨rfl,SubA.fresh f0 (SubA.refl _)⟩|exact SubA.fresh f0 (SubA.refl _)
theorem nL(rb:Nat)(lp:Option Addr)(lcap:Nat)(L:List LR)(A:AH)(hp:RsOk rb lp L A)(i:Nat)(x:LR)(hx:L[i]? =some x)(e w most:Int):AM Tryz.prog 169 #[.pointer (some ⟨rb,0,none⟩),.int .i64 most] (RS rb lp lcap L i e w A) (fun u_ A_=>u_=.int .i64 (if e=0∧F9 x most=true then x.n else 0)∧SubA (RS rb lp lcap L (Da e (F9 x most) i) (EP e (F9 x most)) (D9 e w (F9 x most) x) A) A_):=by
 refine AR ⟨Tryz.prog,169,Tryz.f169,41,[0,1,4,5],⟨[92],none⟩,[(1,.p [(0,0),(1,0),(2,0),(3,0),(4,0),(5,0),(6,0),(7,0),(8,0),(9,0),(10,1),(11,2)])],_⟩ rfl (args:=[_,_]) Tryz.func169 rfl (by kernel_rfl) Tryz.ntmps169 (by simp) (by kernel_rfl) ?_
 intro ν fr;have nuE:=fr.nu
 obtain⟨bk,off,cs,ty,fr0,rfl,h⟩:=hp.at hx
 have hlt:=(List.getElem?_eq_some_iff.1 hx).1
 have hl:=hp.hl
 have lt:((i:Int)<(L.length:Int))=True:=eq_true (by omega)
 have li:((i:Int)<0)=False:=eq_false (by omega)
 have we:IntKind.i64.wrap ((i:Int)+1)=((i+1:Nat):Int):=by rw[Ak (by omega) (by omega)];omega
 have f0:=fr.2 0
 obtain⟨m1,m2⟩:=DB f0
 obtain⟨m3,m4⟩:=BF ((CL hp).none f0) h.hb
 have hor:F9 x most=true∨((x.k !=2)=true∧F9 x most=false)∨((x.k !=2)=false∧(most<x.n)∧F9 x most=false):=by
  by_cases h1:x.k=2
  ·by_cases h2:most<x.n
   ·exact .inr (.inr ⟨by simp[h1],h2,by simp[F9];omega⟩)
   ·exact .inl (by simp[F9,h1];omega)
  ·exact .inr (.inl ⟨by simp[h1],by simp[F9,h1]⟩)
 simp only[RS,Cp]at f0⊢
 have sf:=fun(o:Obj)=>eq_true (SubA.fresh (o:=o) f0 (SubA.refl _))
 rcases hor with hn|⟨hk,hn⟩|⟨hk,hr,hn⟩
 ·have hk:(x.k !=2)=false:=by simp[F9]at hn ⊢;exact hn.1
  have hr:(most<x.n)=False:=eq_false (by simp[F9]at hn;omega)
  rw[hn]
  by_cases he:e=0
  ·subst he
   simp (maxDischargeDepth:=16) only[AX,↓AW,simprocAttr,forall_const,nuE,fr.2,DG,Bs,lt,li,h.hb,h.n1,h.n2,h.c0,h.c1,h.c2,h.c3,h.hc,m1,m2,m3,m4,hk,hr,we,sf]
   simp only[Da,EP,D9,and_self,if_true]
   exact SubA.fresh (AK m2 ((CL (i:=i) (e:=0) (w:=w) hp).none f0)) (SubA.refl _)
  ·have hen:(e !=0)=true:=by simp[he]
   simp (maxDischargeDepth:=16) only[AX,↓AW,simprocAttr,forall_const,nuE,fr.2,DG,Bs,lt,li,h.hb,h.n1,h.n2,h.c0,h.c1,h.c2,h.c3,h.hc,m1,m2,m3,m4,hk,hr,hen,eq_false he,we,sf]
   simp only[Da,EP,D9,if_neg he,he,false_and,if_false]
   first|exact⟨rfl,SubA.fresh f0 (SubA.refl _)⟩|exact SubA.fresh f0 (SubA.refl _)
 ·rw[hn]
  simp (maxDischargeDepth:=16) only[AX,↓AW,simprocAttr,forall_const,nuE,fr.2,DG,Bs,lt,li,h.hb,h.n1,h.n2,h.c0,h.c1,h.c2,h.c3,h.hc,m1,m2,m3,m4,hk,sf]
  have dst_:True:=(by simp[nuE]);generalize ν 0=n3 at dst_  f0 m1 m2 m3 m4⊢
  clear nuE fr sf
  refine AM.ownX (Y:=[(n3,_)]) (F2 rb (some ⟨bk,off,none⟩) lcap L A hp i x hx e w 2) (Dis.one f0).symm ?_
  rintro v D ⟨rfl,hD⟩ dD
  refine⟨_,hD, ?_⟩
  clear hD dD D
  simp only[RS,Cp,List.cons_append,List.nil_append]
  intro ν fr;have nuE:=And.intro (fr.mem (b:=n3) (by simp)) (fr.nu)
  by_cases he:e=0
  ·subst he
   have hen:(E8 0 2 !=0)=true:=by decide
   simp (maxDischargeDepth:=16) only[AX,↓AW,simprocAttr,forall_const,nuE,fr.2,DG,Bs,m1,m2,hen]
   simp only[Da,EP,D9,E8,G3,if_true,Bool.false_eq_true,and_false,if_false]
   first|exact⟨rfl,SubA.fresh (AK m2 ((CL (i:=i) (e:=0) (w:=w) hp).none f0)) (SubA.refl _)⟩|exact SubA.fresh (AK m2 ((CL (i:=i) (e:=0) (w:=w) hp).none f0)) (SubA.refl _)
  ·have hen:(E8 e 2 !=0)=true:=by simp[E8,he]
   simp (maxDischargeDepth:=16) only[AX,↓AW,simprocAttr,forall_const,nuE,fr.2,DG,Bs,m1,m2,hen]
   simp only[Da,EP,D9,E8,G3,if_neg he,he,false_and,if_false]
   first|exact⟨rfl,SubA.fresh f0 (SubA.refl _)⟩|exact SubA.fresh f0 (SubA.refl _)
 ·rw[hn]
  simp (maxDischargeDepth:=16) only[AX,↓AW,simprocAttr,forall_const,nuE,fr.2,DG,Bs,lt,li,h.hb,h.n1,h.n2,h.c0,h.c1,h.c2,h.c3,h.hc,m1,m2,m3,m4,hk,eq_true hr,sf]
  have dst_:True:=(by simp[nuE]);generalize ν 0=n3 at dst_  f0 m1 m2 m3 m4⊢
  clear nuE fr sf
  refine AM.ownX (Y:=[(n3,_)]) (F2 rb (some ⟨bk,off,none⟩) lcap L A hp i x hx e w 2) (Dis.one f0).symm ?_
  rintro v D ⟨rfl,hD⟩ dD
  refine⟨_,hD, ?_⟩
  clear hD dD D
  simp only[RS,Cp,List.cons_append,List.nil_append]
  intro ν fr;have nuE:=And.intro (fr.mem (b:=n3) (by simp)) (fr.nu)
  by_cases he:e=0
  ·subst he
   have hen:(E8 0 2 !=0)=true:=by decide
   simp (maxDischargeDepth:=16) only[AX,↓AW,simprocAttr,forall_const,nuE,fr.2,DG,Bs,m1,m2,hen]
   simp only[Da,EP,D9,E8,G3,if_true,Bool.false_eq_true,and_false,if_false]
   first|exact⟨rfl,SubA.fresh (AK m2 ((CL (i:=i) (e:=0) (w:=w) hp).none f0)) (SubA.refl _)⟩|exact SubA.fresh (AK m2 ((CL (i:=i) (e:=0) (w:=w) hp).none f0)) (SubA.refl _)
  ·have hen:(E8 e 2 !=0)=true:=by simp[E8,he]
   simp (maxDischargeDepth:=16) only[AX,↓AW,simprocAttr,forall_const,nuE,fr.2,DG,Bs,m1,m2,hen]
   simp only[Da,EP,D9,E8,G3,if_neg he,he,false_and,if_false]
   first|exact⟨rfl,SubA.fresh f0 (SubA.refl _)⟩|exact SubA.fresh f0 (SubA.refl _)
end Go.Proofs.YtfphceknmgadgaaGreatDoor
namespace Go.Proofs.YtfphceknmgadgaaGreatDoor
open Go.Vm
set_option maxHeartbeats 4000000
set_option maxRecDepth 20000
def Tn:List ByteArray:=[⟨#[114,117,108,101]⟩,⟨#[119,104,101,110]⟩,⟨#[115,99,111,114,101]⟩,⟨#[112,97,115,115]⟩,⟨#[114,101,102,101,114]⟩,⟨#[100,101,99,108,105,110,101]⟩,⟨#[97,110,100]⟩,⟨#[111,114]⟩,⟨#[110,111,116]⟩,⟨#[105,110]⟩,⟨#[99,111,117,110,116]⟩,⟨#[115,117,109]⟩,⟨#[102,101,101]⟩,⟨#[109,105,110]⟩,⟨#[109,97,120]⟩]
theorem qZ(s:ByteArray):Xl s=Tn.any fun w=>decide (s.toList=w.toList):=by
 simp only[Xl,JS,Tn,D8,H8,H3,List.any_cons,List.any_nil,Bool.or_false,Bool.or_assoc]
 rfl
theorem mz:Cy Tryz.prog 99 15 [(0,.string ⟨#[114,117,108,101]⟩),(1,.string ⟨#[119,104,101,110]⟩),(2,.string ⟨#[115,99,111,114,101]⟩),(3,.string ⟨#[112,97,115,115]⟩),(4,.string ⟨#[114,101,102,101,114]⟩),(5,.string ⟨#[100,101,99,108,105,110,101]⟩),(6,.string ⟨#[97,110,100]⟩),(7,.string ⟨#[111,114]⟩),(8,.string ⟨#[110,111,116]⟩),(9,.string ⟨#[105,110]⟩),(10,.string ⟨#[99,111,117,110,116]⟩),(11,.string ⟨#[115,117,109]⟩),(12,.string ⟨#[102,101,101]⟩),(13,.string ⟨#[109,105,110]⟩),(14,.string ⟨#[109,97,120]⟩)]=some (9,#[.string ⟨#[114,117,108,101]⟩,.string ⟨#[119,104,101,110]⟩,.string ⟨#[115,99,111,114,101]⟩,.string ⟨#[112,97,115,115]⟩,.string ⟨#[114,101,102,101,114]⟩,.string ⟨#[100,101,99,108,105,110,101]⟩,.string ⟨#[97,110,100]⟩,.string ⟨#[111,114]⟩,.string ⟨#[110,111,116]⟩,.string ⟨#[105,110]⟩,.string ⟨#[99,111,117,110,116]⟩,.string ⟨#[115,117,109]⟩,.string ⟨#[102,101,101]⟩,.string ⟨#[109,105,110]⟩,.string ⟨#[109,97,120]⟩]):=by kernel_rfl
theorem fU(s:ByteArray):AM Tryz.prog 39 #[.string s] [] (fun u_ _=>u_=.bool (!(Xl s)&&DS s)):=by
 refine AR ⟨Tryz.prog,39,Tryz.f39,20,[0,2,3,4],⟨[],none⟩,[],_⟩ rfl (args:=[_]) Tryz.func39 rfl (by kernel_rfl) Tryz.ntmps39 (by simp) (by kernel_rfl) ?_
 intro ν fr;have nuE:=fr.nu
 have f0:=fr.2 0
 simp (maxDischargeDepth:=16) only[AX,↓AW,simprocAttr,forall_const,nuE,fr.2,DG,Bs,mz]
 obtain⟨cs,hcs⟩: ∃cs:Array Value,#[.string ⟨#[114,117,108,101]⟩,.string ⟨#[119,104,101,110]⟩,.string ⟨#[115,99,111,114,101]⟩,.string ⟨#[112,97,115,115]⟩,.string ⟨#[114,101,102,101,114]⟩,.string ⟨#[100,101,99,108,105,110,101]⟩,.string ⟨#[97,110,100]⟩,.string ⟨#[111,114]⟩,.string ⟨#[110,111,116]⟩,.string ⟨#[105,110]⟩,.string ⟨#[99,111,117,110,116]⟩,.string ⟨#[115,117,109]⟩,.string ⟨#[102,101,101]⟩,.string ⟨#[109,105,110]⟩,.string ⟨#[109,97,120]⟩]=cs:=⟨_,rfl⟩
 rw[hcs]
 have hc: ∀(i:Nat) (w:ByteArray),Tn[i]? =some w→cs[i]? =some (.string w):=fun i w h=>by
  have e:cs=(Tn.map Value.string).toArray:=by rw[←hcs];rfl
  rw[e,List.getElem?_toArray,List.getElem?_map,h];rfl
 clear hcs
 have dst_:True:=(by simp[nuE]);generalize ν 0=n1 at dst_  f0⊢
 clear nuE fr
 obtain⟨e,l,he,hd,hle,hx⟩: ∃(e:Nat) (l:List ByteArray),e=0∧l=Tn.drop e∧e≤Tn.length∧(!(Xl s)&&DS s)=(!(l.any fun w=>decide (s.toList=w.toList))&&DS s):=⟨0,_,rfl,rfl,by omega,by rw[qZ];rfl⟩
 rw[show(4,some (Value.int .i64 0))=(4,some (Value.int .i64 (e:Int))) by rw[he];rfl,hx]
 clear he hx
 have h15:Tn.length=15:=rfl
 induction l generalizing e with
 |nil=>
  obtain⟨hn1,hn2⟩:=drop_nil hd hle
  have lt:((e:Int)<15)=False:=eq_false (by omega)
  refine Ah.intro (by kernel_rfl) ?_
  intro ν fr;have nuE:=And.intro (fr.mem (b:=n1) (by simp)) (fr.nu)
  simp (maxDischargeDepth:=16) only[AX,↓AW,simprocAttr,forall_const,nuE,fr.2,DG,Bs,lt]
  simp
 | cons w l ihl=>
  obtain⟨ha,hlt,hd',htk⟩:=Dj hd
  have lt:((e:Int)<15)=True:=eq_true (by omega)
  have li:((e:Int)<0)=False:=eq_false (by omega)
  have we:IntKind.i64.wrap ((e:Int)+1)=((e+1:Nat):Int):=by rw[Ak (by omega) (by omega)];omega
  have hce:cs[e*1]? =some (.string w):=by rw[Nat.mul_one];exact hc e w ha
  refine Ah.intro (by kernel_rfl) ?_
  intro ν fr;have nuE:=And.intro (fr.mem (b:=n1) (by simp)) (fr.nu)
  by_cases hw:w.toList=s.toList
  ·simp (maxDischargeDepth:=16) only[AX,↓AW,simprocAttr,forall_const,nuE,fr.2,DG,Bs,lt,li,hce,eq_true hw]
   simp[hw]
  ·have hw': ¬s.toList=w.toList:=fun e=>hw e.symm
   simp (maxDischargeDepth:=16) only[AX,↓AW,simprocAttr,forall_const,nuE,fr.2,DG,Bs,lt,li,hce,eq_false hw,we]
   rw[List.any_cons,decide_eq_false hw',Bool.false_or]
   exact Ah.weak (ihl (e+1) hd' (by omega)) (by simp only[BW,Ab,Nat.reduceEqDiff,↓reduceIte,reduceCtorEq,Nat.reduceAdd,and_self,and_true]) (SubA.refl _)
theorem C2(s:ByteArray)(A_:AH):B5 Tryz.prog 39 #[.string s] A_=some (.bool (!(Xl s)&&DS s)):=Bk (CN (by kernel_rfl) (fU s))
end Go.Proofs.YtfphceknmgadgaaGreatDoor
namespace Go.Proofs.YtfphceknmgadgaaGreatDoor
open Go.Vm
set_option maxHeartbeats 4000000
set_option maxRecDepth 20000
theorem Hi(rb:Nat)(lp:Option Addr)(lcap:Nat)(L:List LR)(A:AH)(i:Nat)(e w:Int)(he:e≠0)(k:Int)(t:ByteArray):AM Tryz.prog 113 #[.pointer (some ⟨rb,0,none⟩),.int .i64 k,.string t] (RS rb lp lcap L i e w A) (fun u_ A_=>u_=.bool false∧SubA (RS rb lp lcap L i e w A) A_):=by
 refine AR ⟨Tryz.prog,113,Tryz.f113,49,[0,1,2,6],⟨[],none⟩,[(1,.q false)],_⟩ rfl (args:=[_,_,_]) Tryz.func113 rfl (by kernel_rfl) Tryz.ntmps113 (by simp) (by kernel_rfl) ?_
 intro ν fr;have nuE:=fr.nu
 have hen:(e !=0)=true:=by simp[he]
 simp only[RS,Cp]at fr⊢
 simp (maxDischargeDepth:=16) only[AX,↓AW,simprocAttr,forall_const,nuE,fr.2,DG,Bs,C2,hen]
theorem Je(rb:Nat)(lp:Option Addr)(lcap:Nat)(L:List LR)(A:AH)(i:Nat)(e w:Int)(he:e≠0)(k:Int)(t:ByteArray)(B_:AH)(hB_:SubA (RS rb lp lcap L i e w A) B_):B5 Tryz.prog 113 #[.pointer (some ⟨rb,0,none⟩),.int .i64 k,.string t] B_=some (.bool false):=Bk (Ct (by kernel_rfl) (Hi rb lp lcap L A i e w he k t) hB_)
theorem o0(rb:Nat)(lp:Option Addr)(lcap:Nat)(L:List LR)(A:AH)(i:Nat)(e w:Int)(he:e≠0):AM Tryz.prog 163 #[.pointer (some ⟨rb,0,none⟩)] (RS rb lp lcap L i e w A) (fun u_ A_=>u_=.agg #[.int .i64 0,.string ⟨#[]⟩,.string ⟨#[]⟩,.int .i64 0,.slice none 0 0]∧SubA (RS rb lp lcap L i e w A) A_):=by
 refine AR ⟨Tryz.prog,163,Tryz.f163,84,[0,2,3,4],⟨[],none⟩,[(3,.p [(0,0),(1,0),(2,0),(3,0),(4,0),(5,0),(6,0),(7,0),(8,0),(9,0),(10,1),(11,2)])],_⟩ rfl (args:=[_]) Tryz.func163 rfl (by kernel_rfl) Tryz.ntmps163 (by simp) (by kernel_rfl) ?_
 intro ν fr;have nuE:=fr.nu
 have hen:(e !=0)=true:=by simp[he]
 have f0:=fr.2 0
 obtain⟨m1,m2⟩:=DB f0
 simp only[RS,Cp]at f0 fr⊢
 simp (maxDischargeDepth:=16) only[AX,↓AW,simprocAttr,forall_const,nuE,fr.2,DG,Bs,C2,hen,m1,m2]
theorem qH(rb:Nat)(lp:Option Addr)(lcap:Nat)(L:List LR)(A:AH)(i:Nat)(e w:Int)(he:e≠0)(B_:AH)(hB_:SubA (RS rb lp lcap L i e w A) B_):B5 Tryz.prog 163 #[.pointer (some ⟨rb,0,none⟩)] B_=some (.agg #[.int .i64 0,.string ⟨#[]⟩,.string ⟨#[]⟩,.int .i64 0,.slice none 0 0]):=Bk (Ct (by kernel_rfl) (o0 rb lp lcap L A i e w he) hB_)
theorem pF(rb:Nat)(lp:Option Addr)(lcap:Nat)(L:List LR)(A:AH)(i:Nat)(e w:Int)(he:e≠0):AM Tryz.prog 160 #[.pointer (some ⟨rb,0,none⟩)] (RS rb lp lcap L i e w A) (fun u_ A_=>u_=.agg #[.int .i64 0,.string ⟨#[]⟩,.string ⟨#[]⟩,.int .i64 0,.slice none 0 0]∧SubA (RS rb lp lcap L i e w A) A_):=by
 refine AR ⟨Tryz.prog,160,Tryz.f160,13,[0,2,3],⟨[],none⟩,[(3,.p [(0,0),(1,0),(2,0),(3,0),(4,2)])],_⟩ rfl (args:=[_]) Tryz.func160 rfl (by kernel_rfl) Tryz.ntmps160 (by simp) (by kernel_rfl) ?_
 intro ν fr;have nuE:=fr.nu
 have hen:(e !=0)=true:=by simp[he]
 have bl:=qH rb lp lcap L A i e w he
 have tk:=Je rb lp lcap L A i e w he
 have f0:=fr.2 0
 have f1:=fr.2 1
 have n01:(ν 1=ν 0)=False:=by simp[nuE]
 obtain⟨m1,m2⟩:=DB f0
 obtain⟨m3,m4⟩:=DB f1
 simp only[RS,Cp]at f0 f1 bl tk fr⊢
 simp (maxDischargeDepth:=16) only[AX,↓AW,simprocAttr,forall_const,nuE,fr.2,DG,Bs,C2,bl,tk,hen,m1,m2,m3,m4,eq_false he]
 have dst_:((ν 0=ν 1)=False)∧((ν 1=ν 0)=False):=(by simp[nuE]);generalize ν 0=n2 at dst_  f0 f1 n01 m1 m2 m3 m4 ⊢;generalize ν 1=n3 at dst_  f0 f1 n01 m1 m2 m3 m4⊢
 clear nuE fr
 have d0:=dst_
 have tk2:=fun o o' k t=>Je rb lp lcap L A i e w he k t ((n3,o)::(n2,o')::RS rb lp lcap L i e w A) (SubA.fresh (AK (by simp[d0]) f1) (SubA.fresh f0 (SubA.refl _)))
 simp only[RS,Cp]at tk2
 refine Ah.intro (by kernel_rfl) ?_
 intro ν fr;have nuE:=And.intro (fr.mem (b:=n3) (by simp)) (And.intro (fr.mem (b:=n2) (by simp)) (fr.nu))
 simp (maxDischargeDepth:=16) only[AX,↓AW,simprocAttr,forall_const,nuE,fr.2,DG,Bs,C2,bl,tk2,hen,d0,m1,m2,m3,m4,eq_false he]
 exact SubA.fresh (AK (by simp[d0]) f1) (SubA.fresh f0 (SubA.refl _))
theorem p8(rb:Nat)(lp:Option Addr)(lcap:Nat)(L:List LR)(A:AH)(i:Nat)(e w:Int)(he:e≠0)(B_:AH)(hB_:SubA (RS rb lp lcap L i e w A) B_):B5 Tryz.prog 160 #[.pointer (some ⟨rb,0,none⟩)] B_=some (.agg #[.int .i64 0,.string ⟨#[]⟩,.string ⟨#[]⟩,.int .i64 0,.slice none 0 0]):=Bk (Ct (by kernel_rfl) (pF rb lp lcap L A i e w he) hB_)
theorem jC(rb:Nat)(lp:Option Addr)(lcap:Nat)(L:List LR)(A:AH)(i:Nat)(e w:Int)(he:e≠0):AM Tryz.prog 151 #[.pointer (some ⟨rb,0,none⟩)] (RS rb lp lcap L i e w A) (fun u_ A_=>u_=.agg #[.int .i64 0,.string ⟨#[]⟩,.string ⟨#[]⟩,.int .i64 0,.slice none 0 0]∧SubA (RS rb lp lcap L i e w A) A_):=by
 refine AR ⟨Tryz.prog,151,Tryz.f151,27,[0,2,3],⟨[],none⟩,[(5,.p [(0,0),(1,0),(2,0),(3,0),(4,2)]),(7,.p [(0,0),(1,0),(2,0),(3,0),(4,2)])],_⟩ rfl (args:=[_]) Tryz.func151 rfl (by kernel_rfl) Tryz.ntmps151 (by simp) (by kernel_rfl) ?_
 intro ν fr;have nuE:=fr.nu
 have hen:(e !=0)=true:=by simp[he]
 have bl:=p8 rb lp lcap L A i e w he
 have tk:=Je rb lp lcap L A i e w he
 have f0:=fr.2 0
 have f1:=fr.2 1
 have n01:(ν 1=ν 0)=False:=by simp[nuE]
 obtain⟨m1,m2⟩:=DB f0
 obtain⟨m3,m4⟩:=DB f1
 simp only[RS,Cp]at f0 f1 bl tk fr⊢
 simp (maxDischargeDepth:=16) only[AX,↓AW,simprocAttr,forall_const,nuE,fr.2,DG,Bs,C2,bl,tk,hen,m1,m2,m3,m4,eq_false he]
 have dst_:((ν 0=ν 1)=False)∧((ν 1=ν 0)=False):=(by simp[nuE]);generalize ν 0=n2 at dst_  f0 f1 n01 m1 m2 m3 m4 ⊢;generalize ν 1=n3 at dst_  f0 f1 n01 m1 m2 m3 m4⊢
 clear nuE fr
 have d0:=dst_
 have tk2:=fun o o' k t=>Je rb lp lcap L A i e w he k t ((n3,o)::(n2,o')::RS rb lp lcap L i e w A) (SubA.fresh (AK (by simp[d0]) f1) (SubA.fresh f0 (SubA.refl _)))
 simp only[RS,Cp]at tk2
 refine Ah.intro (by kernel_rfl) ?_
 intro ν fr;have nuE:=And.intro (fr.mem (b:=n3) (by simp)) (And.intro (fr.mem (b:=n2) (by simp)) (fr.nu))
 simp (maxDischargeDepth:=16) only[AX,↓AW,simprocAttr,forall_const,nuE,fr.2,DG,Bs,C2,bl,tk2,hen,d0,m1,m2,m3,m4,eq_false he]
 exact SubA.fresh (AK (by simp[d0]) f1) (SubA.fresh f0 (SubA.refl _))
theorem pZ(rb:Nat)(lp:Option Addr)(lcap:Nat)(L:List LR)(A:AH)(i:Nat)(e w:Int)(he:e≠0)(B_:AH)(hB_:SubA (RS rb lp lcap L i e w A) B_):B5 Tryz.prog 151 #[.pointer (some ⟨rb,0,none⟩)] B_=some (.agg #[.int .i64 0,.string ⟨#[]⟩,.string ⟨#[]⟩,.int .i64 0,.slice none 0 0]):=Bk (Ct (by kernel_rfl) (jC rb lp lcap L A i e w he) hB_)
theorem qY(rb:Nat)(lp:Option Addr)(lcap:Nat)(L:List LR)(A:AH)(i:Nat)(e w:Int)(he:e≠0):AM Tryz.prog 136 #[.pointer (some ⟨rb,0,none⟩)] (RS rb lp lcap L i e w A) (fun u_ A_=>u_=.agg #[.int .i64 0,.string ⟨#[]⟩,.string ⟨#[]⟩,.int .i64 0,.slice none 0 0]∧SubA (RS rb lp lcap L i e w A) A_):=by
 refine AR ⟨Tryz.prog,136,Tryz.f136,56,[0,2,3,4],⟨[],none⟩,[(3,.p [(0,0),(1,0),(2,0),(3,0),(4,2)]),(5,.p [(0,0),(1,0),(2,0),(3,0),(4,2)]),(7,.p [(0,0),(1,0),(2,0),(3,0),(4,2)]),(9,.p [(0,0),(1,0),(2,0),(3,0),(4,2)]),(12,.p [(0,0),(1,0),(2,0),(3,2),(4,0)])],_⟩ rfl (args:=[_]) Tryz.func136 rfl (by kernel_rfl) Tryz.ntmps136 (by simp) (by kernel_rfl) ?_
 intro ν fr;have nuE:=fr.nu
 have hen:(e !=0)=true:=by simp[he]
 have bl:=pZ rb lp lcap L A i e w he
 have tk:=Je rb lp lcap L A i e w he
 have f0:=fr.2 0
 have f1:=fr.2 1
 have n01:(ν 1=ν 0)=False:=by simp[nuE]
 obtain⟨m1,m2⟩:=DB f0
 obtain⟨m3,m4⟩:=DB f1
 simp only[RS,Cp]at f0 f1 bl tk fr⊢
 simp (maxDischargeDepth:=16) only[AX,↓AW,simprocAttr,forall_const,nuE,fr.2,DG,Bs,C2,bl,tk,hen,m1,m2,m3,m4,eq_false he]
theorem qO(rb:Nat)(lp:Option Addr)(lcap:Nat)(L:List LR)(A:AH)(i:Nat)(e w:Int)(he:e≠0)(B_:AH)(hB_:SubA (RS rb lp lcap L i e w A) B_):B5 Tryz.prog 136 #[.pointer (some ⟨rb,0,none⟩)] B_=some (.agg #[.int .i64 0,.string ⟨#[]⟩,.string ⟨#[]⟩,.int .i64 0,.slice none 0 0]):=Bk (Ct (by kernel_rfl) (qY rb lp lcap L A i e w he) hB_)
theorem od(rb:Nat)(lp:Option Addr)(lcap:Nat)(L:List LR)(A:AH)(i:Nat)(e w:Int)(he:e≠0):AM Tryz.prog 112 #[.pointer (some ⟨rb,0,none⟩)] (RS rb lp lcap L i e w A) (fun u_ A_=>u_=.agg #[.int .i64 0,.string ⟨#[]⟩,.string ⟨#[]⟩,.int .i64 0,.slice none 0 0]∧SubA (RS rb lp lcap L i e w A) A_):=by
 refine AR ⟨Tryz.prog,112,Tryz.f112,13,[0,2,3],⟨[],none⟩,[(3,.p [(0,0),(1,0),(2,0),(3,0),(4,2)])],_⟩ rfl (args:=[_]) Tryz.func112 rfl (by kernel_rfl) Tryz.ntmps112 (by simp) (by kernel_rfl) ?_
 intro ν fr;have nuE:=fr.nu
 have hen:(e !=0)=true:=by simp[he]
 have bl:=qO rb lp lcap L A i e w he
 have tk:=Je rb lp lcap L A i e w he
 have f0:=fr.2 0
 have f1:=fr.2 1
 have n01:(ν 1=ν 0)=False:=by simp[nuE]
 obtain⟨m1,m2⟩:=DB f0
 obtain⟨m3,m4⟩:=DB f1
 simp only[RS,Cp]at f0 f1 bl tk fr⊢
 simp (maxDischargeDepth:=16) only[AX,↓AW,simprocAttr,forall_const,nuE,fr.2,DG,Bs,C2,bl,tk,hen,m1,m2,m3,m4,eq_false he]
 have dst_:((ν 0=ν 1)=False)∧((ν 1=ν 0)=False):=(by simp[nuE]);generalize ν 0=n2 at dst_  f0 f1 n01 m1 m2 m3 m4 ⊢;generalize ν 1=n3 at dst_  f0 f1 n01 m1 m2 m3 m4⊢
 clear nuE fr
 have d0:=dst_
 have tk2:=fun o o' k t=>Je rb lp lcap L A i e w he k t ((n3,o)::(n2,o')::RS rb lp lcap L i e w A) (SubA.fresh (AK (by simp[d0]) f1) (SubA.fresh f0 (SubA.refl _)))
 simp only[RS,Cp]at tk2
 refine Ah.intro (by kernel_rfl) ?_
 intro ν fr;have nuE:=And.intro (fr.mem (b:=n3) (by simp)) (And.intro (fr.mem (b:=n2) (by simp)) (fr.nu))
 simp (maxDischargeDepth:=16) only[AX,↓AW,simprocAttr,forall_const,nuE,fr.2,DG,Bs,C2,bl,tk2,hen,d0,m1,m2,m3,m4,eq_false he]
 exact SubA.fresh (AK (by simp[d0]) f1) (SubA.fresh f0 (SubA.refl _))
theorem oT(rb:Nat)(lp:Option Addr)(lcap:Nat)(L:List LR)(A:AH)(i:Nat)(e w:Int)(he:e≠0)(B_:AH)(hB_:SubA (RS rb lp lcap L i e w A) B_):B5 Tryz.prog 112 #[.pointer (some ⟨rb,0,none⟩)] B_=some (.agg #[.int .i64 0,.string ⟨#[]⟩,.string ⟨#[]⟩,.int .i64 0,.slice none 0 0]):=Bk (Ct (by kernel_rfl) (od rb lp lcap L A i e w he) hB_)
theorem qb(rb:Nat)(lp:Option Addr)(lcap:Nat)(L:List LR)(A:AH)(i:Nat)(e w:Int)(he:e≠0):AM Tryz.prog 91 #[.pointer (some ⟨rb,0,none⟩)] (RS rb lp lcap L i e w A) (fun u_ A_=>u_=.agg #[.int .i64 0,.string ⟨#[]⟩,.string ⟨#[]⟩,.int .i64 0,.slice none 0 0]∧SubA (RS rb lp lcap L i e w A) A_):=by
 refine AR ⟨Tryz.prog,91,Tryz.f91,13,[0,2,3],⟨[],none⟩,[(3,.p [(0,0),(1,0),(2,0),(3,0),(4,2)])],_⟩ rfl (args:=[_]) Tryz.func91 rfl (by kernel_rfl) Tryz.ntmps91 (by simp) (by kernel_rfl) ?_
 intro ν fr;have nuE:=fr.nu
 have hen:(e !=0)=true:=by simp[he]
 have bl:=oT rb lp lcap L A i e w he
 have tk:=Je rb lp lcap L A i e w he
 have f0:=fr.2 0
 have f1:=fr.2 1
 have n01:(ν 1=ν 0)=False:=by simp[nuE]
 obtain⟨m1,m2⟩:=DB f0
 obtain⟨m3,m4⟩:=DB f1
 simp only[RS,Cp]at f0 f1 bl tk fr⊢
 simp (maxDischargeDepth:=16) only[AX,↓AW,simprocAttr,forall_const,nuE,fr.2,DG,Bs,C2,bl,tk,hen,m1,m2,m3,m4,eq_false he]
 have dst_:((ν 0=ν 1)=False)∧((ν 1=ν 0)=False):=(by simp[nuE]);generalize ν 0=n2 at dst_  f0 f1 n01 m1 m2 m3 m4 ⊢;generalize ν 1=n3 at dst_  f0 f1 n01 m1 m2 m3 m4⊢
 clear nuE fr
 have d0:=dst_
 have tk2:=fun o o' k t=>Je rb lp lcap L A i e w he k t ((n3,o)::(n2,o')::RS rb lp lcap L i e w A) (SubA.fresh (AK (by simp[d0]) f1) (SubA.fresh f0 (SubA.refl _)))
 simp only[RS,Cp]at tk2
 refine Ah.intro (by kernel_rfl) ?_
 intro ν fr;have nuE:=And.intro (fr.mem (b:=n3) (by simp)) (And.intro (fr.mem (b:=n2) (by simp)) (fr.nu))
 simp (maxDischargeDepth:=16) only[AX,↓AW,simprocAttr,forall_const,nuE,fr.2,DG,Bs,C2,bl,tk2,hen,d0,m1,m2,m3,m4,eq_false he]
 exact SubA.fresh (AK (by simp[d0]) f1) (SubA.fresh f0 (SubA.refl _))
end Go.Proofs.YtfphceknmgadgaaGreatDoor
