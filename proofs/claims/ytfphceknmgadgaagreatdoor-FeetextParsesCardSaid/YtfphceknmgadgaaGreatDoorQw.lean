/-
The reader of fee tables of the reference.
Conditions: none.
-/
import Derived.Test.YtfphceknmgadgaaGreatDoorQv
import Derived.Test.YtfphceknmgadgaaGreatDoorQk
import Derived.Test.YtfphceknmgadgaaGreatDoorQu
import Derived.Test.YtfphceknmgadgaaGreatDoorQj
set_option linter.unusedSimpArgs false
set_option linter.unusedVariables false
namespace Go.Proofs.YtfphceknmgadgaaGreatDoor
open Go.Vm
set_option maxHeartbeats 4000000
set_option maxRecDepth 20000
theorem Cz:type_of% (An @BC (An @BU (An @BS (An @Aw (An @BB (An @BT (An @Bn (An @BN (An @CA (An @CS (An @B9 (An @CR (An @Cm (An @CT (An @CC (An @Bp (An @Bq (An @CQ (An @Be (An @Br (An @CB (An @Bo (An @Bx (An @AU (An @AQ (An @Am (An @Ap (An @Ag (An @BG (An @Aj (An @At (An @Au (An @Ax (An @A4 (An @A5 (An @A7 (An @BA (An @Ce (An @Al (An @Ae (An @A9 (An @BP (An @BL (An @LL (An @Bs @C2))))))))))))))))))))))))))))))))))))))))))))):=⟨@BC,@BU,@BS,@Aw,@BB,@BT,@Bn,@BN,@CA,@CS,@B9,@CR,@Cm,@CT,@CC,@Bp,@Bq,@CQ,@Be,@Br,@CB,@Bo,@Bx,@AU,@AQ,@Am,@Ap,@Ag,@BG,@Aj,@At,@Au,@Ax,@A4,@A5,@A7,@BA,@Ce,@Al,@Ae,@A9,@BP,@BL,@LL,@Bs,@C2⟩
def FY(s pl:ByteArray)(bk off n cap i:Nat)(e w:Int):Obj:=.cells #[.string s,.string pl,.slice (some ⟨bk,off+i*4,none⟩) (n - i) (cap - i),.int .i64 e,.int .i64 w] 55
def RQ(rb:Nat)(s pl:ByteArray)(bk off cap:Nat)(L:List LR)(i:Nat)(e w:Int)(A:AH):AH:=(rb,FY s pl bk off L.length cap i e w)::A
structure RqOk(rb:Nat)(s pl:ByteArray)(bk off cap:Nat)(L:List LR)(A:AH):Prop where
 nr:Vm.AA A rb=none
 hL:ES LR.cells 4 A (some ⟨bk,off,none⟩) L
 hl:L.length≤100000
 hc:L.length≤cap
 he:Po L
 sz:s.size=pl.size
 s4:s.size≤4000
 wf: ∀(i:Nat) (x:LR),L[i]? =some x→x.k=1→DS x.t=true
 po: ∀(i j:Nat) (x y:LR),i≤j→L[i]? =some x→L[j]? =some y→x.a≤y.a∧y.a≤s.size∧(y.k≠0→y.a+1≤s.size)
theorem Di{rb:Nat}{s pl:ByteArray}{bk off cap:Nat}{L:List LR}{i i':Nat}{e e' w w':Int}{A:AH}{n:Nat}(h:Vm.AA (RQ rb s pl bk off cap L i e w A) n=none):Vm.AA (RQ rb s pl bk off cap L i' e' w' A) n=none:=by
 simp only[RQ,Vm.AA]at h⊢
 split at h
 ·cases h
 ·rename_i hne;rw[if_neg hne];exact h
structure AtQ(rb:Nat)(A:AH)(i:Nat)(x:LR)(bk off:Nat)(cs:Array Value)(ty:TypeId)(fr0:Nat×Nat):Prop where
 hb:Vm.AA A bk=some (.cells cs ty fr0)
 n1:(rb=bk)=False
 n2:(bk=rb)=False
 c0:cs[off+i*4]? =some (.int .i64 x.k)
 c1:cs[off+i*4+1]? =some (.string x.t)
 c2:cs[off+i*4+2]? =some (.int .i64 x.n)
 c3:cs[off+i*4+3]? =some (.int .i64 (x.a:Int))
theorem RqOk.at{rb bk off cap:Nat}{s pl:ByteArray}{L:List LR}{A:AH}(hp:RqOk rb s pl bk off cap L A){i:Nat}{x:LR}(hx:L[i]? =some x): ∃cs ty fr0,AtQ rb A i x bk off cs ty fr0:=by
 obtain⟨bk',off',cs,ty,fr0,hp0,hbk,hcr,hcc⟩:=hp.hL.at hx
 cases hp0
 have hn:=BF hp.nr hbk
 exact⟨cs,ty,fr0,hbk,hn.1,hn.2,hcc 0 _ rfl,hcc 1 _ rfl,hcc 2 _ rfl,hcc 3 _ rfl⟩
theorem EL(rb:Nat)(s pl:ByteArray)(bk off cap:Nat)(L:List LR)(A:AH)(hp:RqOk rb s pl bk off cap L A)(i:Nat)(x:LR)(hx:L[i]? =some x)(e w e2:Int):AM Tryz.prog 23 #[.pointer (some ⟨rb,0,none⟩),.int .i64 e2] (RQ rb s pl bk off cap L i e w A) (fun u_ A_=>u_=.tuple #[]∧SubA (RQ rb s pl bk off cap L i (E8 e e2) (G3 e w x) A) A_):=by
 refine AR ⟨Tryz.prog,23,Tryz.f23,23,[0,1],⟨[],none⟩,[],_⟩ rfl (args:=[_,_]) Tryz.func23 rfl (by kernel_rfl) Tryz.ntmps23 (by simp) (by kernel_rfl) ?_
 intro ν fr;have nuE:=fr.nu
 obtain⟨cs,ty,fr0,h⟩:=hp.at hx
 have hlt:=(List.getElem?_eq_some_iff.1 hx).1
 have lt:((0:Int)<((L.length - i:Nat):Int))=True:=eq_true (by omega)
 simp only[RQ,FY]
 by_cases he:e=0
 ·subst he
  simp (maxDischargeDepth:=16) only[AX,↓AW,simprocAttr,forall_const,nuE,fr.2,Cz,lt,h.hb,h.n1,h.n2,h.c0,h.c1,h.c2,h.c3]
  exact⟨rfl,by unfold E8 G3;simp only[if_true];exact SubA.refl _⟩
 ·simp (maxDischargeDepth:=16) only[AX,↓AW,simprocAttr,forall_const,nuE,fr.2,Cz,eq_false he]
  exact⟨rfl,by unfold E8 G3;rw[if_neg he,if_neg he];exact SubA.refl _⟩
theorem LC(rb:Nat)(s pl:ByteArray)(bk off cap:Nat)(L:List LR)(A:AH)(hp:RqOk rb s pl bk off cap L A)(i:Nat)(x:LR)(hx:L[i]? =some x)(e w k:Int)(t:ByteArray)(hk0:k≠0):AM Tryz.prog 28 #[.pointer (some ⟨rb,0,none⟩),.int .i64 k,.string t] (RQ rb s pl bk off cap L i e w A) (fun u_ A_=>u_=.bool (E7 e x k t)∧SubA (RQ rb s pl bk off cap L (if E7 e x k t=true then i+1 else i) e w A) A_):=by
 refine AR ⟨Tryz.prog,28,Tryz.f28,42,[0,1,2,6],⟨[],none⟩,[],_⟩ rfl (args:=[_,_,_]) Tryz.func28 rfl (by kernel_rfl) Tryz.ntmps28 (by simp) (by kernel_rfl) ?_
 intro ν fr;have nuE:=fr.nu
 obtain⟨cs,ty,fr0,h⟩:=hp.at hx
 have hlt:=(List.getElem?_eq_some_iff.1 hx).1
 have hl:=hp.hl
 have hc:=hp.hc
 have lt:((0:Int)<((L.length - i:Nat):Int))=True:=eq_true (by omega)
 simp only[RQ,FY]
 by_cases he:e=0
 rotate_left
 ·have hn:(e !=0)=true:=by simp[he]
  have hb:E7 e x k t=false:=by simp[E7,he]
  rw[hb]
  simp (maxDischargeDepth:=16) only[AX,↓AW,simprocAttr,forall_const,nuE,fr.2,Cz,hn]
 subst he
 by_cases hk:x.k=k
 rotate_left
 ·have hn:(x.k !=k)=true:=by simp[hk]
  have hb:E7 0 x k t=false:=by simp[E7,BX,hk]
  rw[hb]
  simp (maxDischargeDepth:=16) only[AX,↓AW,simprocAttr,forall_const,nuE,fr.2,Cz,lt,h.hb,h.n1,h.n2,h.c0,h.c1,h.c2,h.c3,hn]
 have hn:(x.k !=k)=false:=by simp[hk]
 have s1:((1:Int)≤((L.length - i:Nat):Int))=True:=eq_true (by omega)
 have s2:(((L.length - i:Nat):Int)≤((cap - i:Nat):Int))=True:=eq_true (by omega)
 by_cases ht:x.t.toList=t.toList
 ·have hm:(x.t.toList !=t.toList)=false:=by simp[ht]
  have hb:E7 0 x k t=true:=by simp[E7,BX,hk,ht]
  rw[hb]
  have hnx:=DZ hp.he hx (by rw[hk];exact hk0)
  have cn:(cap - i=1)=False:=eq_false (by omega)
  simp (maxDischargeDepth:=16) only[AX,↓AW,simprocAttr,forall_const,nuE,fr.2,Cz,lt,h.hb,h.n1,h.n2,h.c0,h.c1,h.c2,h.c3,hn,hm,eq_true ht,s1,s2,cn]
  rw[show off+(i+1)*4=off+i*4+4 by omega,show L.length - (i+1)=L.length - i - 1 by omega,show cap - (i+1)=cap - i - 1 by omega]
  exact SubA.refl _
 ·have hm:(x.t.toList !=t.toList)=true:=by simp[ht]
  have hb:E7 0 x k t=false:=by simp[E7,BX,hk,ht]
  rw[hb]
  simp (maxDischargeDepth:=16) only[AX,↓AW,simprocAttr,forall_const,nuE,fr.2,Cz,lt,h.hb,h.n1,h.n2,h.c0,h.c1,h.c2,h.c3,hn,hm,eq_false ht]
theorem JN(rb:Nat)(s pl:ByteArray)(bk off cap:Nat)(L:List LR)(A:AH)(hp:RqOk rb s pl bk off cap L A)(i:Nat)(x:LR)(hx:L[i]? =some x)(e w k:Int)(t:ByteArray)(hk0:k≠0):AM Tryz.prog 24 #[.pointer (some ⟨rb,0,none⟩),.int .i64 k,.string t] (RQ rb s pl bk off cap L i e w A) (fun u_ A_=>u_=.tuple #[]∧SubA (RQ rb s pl bk off cap L (Da e (BX x k t) i) (EP e (BX x k t)) (D9 e w (BX x k t) x) A) A_):=by
 refine AR ⟨Tryz.prog,24,Tryz.f24,13,[0,1,2],⟨[28,23],none⟩,[],_⟩ rfl (args:=[_,_,_]) Tryz.func24 rfl (by kernel_rfl) Tryz.ntmps24 (by simp) (by kernel_rfl) ?_
 intro ν fr;have nuE:=fr.nu
 simp (maxDischargeDepth:=16) only[AX,↓AW,simprocAttr,forall_const,nuE,fr.2,Cz]
 refine AM.useX (LC rb s pl bk off cap L A hp i x hx e w k t hk0) (SubA.refl _) [] (SubA.nil _) (fun x hx=>absurd rfl hx) ?_
 rintro v D ⟨rfl,hD⟩ dD
 refine⟨_,hD, ?_⟩
 rw[List.append_nil]
 clear hD dD D nuE fr
 intro ν fr;have nuE:=fr.nu
 by_cases he:e=0
 ·subst he
  cases hc:BX x k t with
  |true=>
   have hb:E7 0 x k t=true:=by simp[E7,hc]
   rw[hb]
   simp (maxDischargeDepth:=16) only[AX,↓AW,simprocAttr,forall_const,nuE,fr.2,Cz]
   exact⟨rfl,SubA.refl _⟩
  |false=>
   have hb:E7 0 x k t=false:=by simp[E7,hc]
   rw[hb]
   simp only[Bool.false_eq_true,if_false]
   simp (maxDischargeDepth:=16) only[AX,↓AW,simprocAttr,forall_const,nuE,fr.2,Cz]
   refine AM.useX (EL rb s pl bk off cap L A hp i x hx 0 w 2) (SubA.refl _) [] (SubA.nil _) (fun x hx=>absurd rfl hx) ?_
   rintro v D ⟨rfl,hD⟩ dD
   refine⟨_,hD, ?_⟩
   rw[List.append_nil]
   clear hD dD D nuE fr
   intro ν fr;have nuE:=fr.nu
   simp (maxDischargeDepth:=16) only[AX,↓AW,simprocAttr,forall_const,nuE,fr.2,Cz]
   exact⟨rfl,by simp only[E8,G3,Da,EP,D9,if_true,Bool.false_eq_true,if_false,and_false];exact SubA.refl _⟩
 ·have hb:E7 e x k t=false:=by simp[E7,he]
  rw[hb]
  simp only[Bool.false_eq_true,if_false]
  simp (maxDischargeDepth:=16) only[AX,↓AW,simprocAttr,forall_const,nuE,fr.2,Cz]
  refine AM.useX (EL rb s pl bk off cap L A hp i x hx e w 2) (SubA.refl _) [] (SubA.nil _) (fun x hx=>absurd rfl hx) ?_
  rintro v D ⟨rfl,hD⟩ dD
  refine⟨_,hD, ?_⟩
  rw[List.append_nil]
  clear hD dD D nuE fr
  intro ν fr;have nuE:=fr.nu
  simp (maxDischargeDepth:=16) only[AX,↓AW,simprocAttr,forall_const,nuE,fr.2,Cz]
  exact⟨rfl,by simp only[E8,G3,Da,EP,D9,if_neg he,if_neg (show¬(e=0∧BX x k t=true) from fun h=>he h.1)];exact SubA.refl _⟩
def N7(x:LR):Bool:=decide (x.k=2)
theorem Ts(rb:Nat)(s pl:ByteArray)(bk off cap:Nat)(L:List LR)(A:AH)(hp:RqOk rb s pl bk off cap L A)(i:Nat)(x:LR)(hx:L[i]? =some x)(e w:Int):AM Tryz.prog 29 #[.pointer (some ⟨rb,0,none⟩)] (RQ rb s pl bk off cap L i e w A) (fun u_ A_=>u_=.int .i64 (if e=0∧N7 x=true then x.n else 0)∧SubA (RQ rb s pl bk off cap L (Da e (N7 x) i) (EP e (N7 x)) (D9 e w (N7 x) x) A) A_):=by
 refine AR ⟨Tryz.prog,29,Tryz.f29,37,[0,2,3],⟨[23],none⟩,[],_⟩ rfl (args:=[_]) Tryz.func29 rfl (by kernel_rfl) Tryz.ntmps29 (by simp) (by kernel_rfl) ?_
 intro ν fr;have nuE:=fr.nu
 obtain⟨cs,ty,fr0,h⟩:=hp.at hx
 have hlt:=(List.getElem?_eq_some_iff.1 hx).1
 have hl:=hp.hl
 have hc:=hp.hc
 have lt:((0:Int)<((L.length - i:Nat):Int))=True:=eq_true (by omega)
 by_cases he:e=0
 ·subst he
  by_cases hk:x.k=2
  ·have hn:(x.k !=2)=false:=by simp[hk]
   have hnb:N7 x=true:=by simp[N7,hk]
   have s1:((1:Int)≤((L.length - i:Nat):Int))=True:=eq_true (by omega)
   have s2:(((L.length - i:Nat):Int)≤((cap - i:Nat):Int))=True:=eq_true (by omega)
   have hnx:=DZ hp.he hx (by rw[hk];decide)
   have cn:(cap - i=1)=False:=eq_false (by omega)
   simp only[RQ,FY]
   simp (maxDischargeDepth:=16) only[AX,↓AW,simprocAttr,forall_const,nuE,fr.2,Cz,lt,h.hb,h.n1,h.n2,h.c0,h.c1,h.c2,h.c3,hk,hn,s1,s2,cn]
   simp only[hnb,Da,EP,D9,and_self,if_true]
   rw[show off+(i+1)*4=off+i*4+4 by omega,show L.length - (i+1)=L.length - i - 1 by omega,show cap - (i+1)=cap - i - 1 by omega]
   exact⟨trivial,SubA.refl _⟩
  ·have hn:(x.k !=2)=true:=by simp[hk]
   have hnb:N7 x=false:=by simp[N7,hk]
   have key:AM Tryz.prog 23 #[.pointer (some ⟨rb,0,none⟩),.int .i64 2] (RQ rb s pl bk off cap L i 0 w A) _:=EL rb s pl bk off cap L A hp i x hx 0 w 2
   simp only[RQ,FY]at key⊢
   simp (maxDischargeDepth:=16) only[AX,↓AW,simprocAttr,forall_const,nuE,fr.2,Cz,lt,h.hb,h.n1,h.n2,h.c0,h.c1,h.c2,h.c3,hn]
   refine AM.useX key (SubA.refl _) [] (SubA.nil _) (fun x hx=>absurd rfl hx) ?_
   rintro v D ⟨rfl,hD⟩ dD
   refine⟨_,hD, ?_⟩
   rw[List.append_nil]
   clear hD dD D nuE fr
   intro ν fr;have nuE:=fr.nu
   simp (maxDischargeDepth:=16) only[AX,↓AW,simprocAttr,forall_const,nuE,fr.2,Cz]
   simp only[hnb,E8,G3,Da,EP,D9,if_true,Bool.false_eq_true,if_false,and_false]
   exact⟨trivial,SubA.refl _⟩
 ·have hn:(e !=0)=true:=by simp[he]
  have key:AM Tryz.prog 23 #[.pointer (some ⟨rb,0,none⟩),.int .i64 2] (RQ rb s pl bk off cap L i e w A) _:=EL rb s pl bk off cap L A hp i x hx e w 2
  simp only[RQ,FY]at key⊢
  simp (maxDischargeDepth:=16) only[AX,↓AW,simprocAttr,forall_const,nuE,fr.2,Cz,hn]
  refine AM.useX key (SubA.refl _) [] (SubA.nil _) (fun x hx=>absurd rfl hx) ?_
  rintro v D ⟨rfl,hD⟩ dD
  refine⟨_,hD, ?_⟩
  rw[List.append_nil]
  clear hD dD D nuE fr
  intro ν fr;have nuE:=fr.nu
  simp (maxDischargeDepth:=16) only[AX,↓AW,simprocAttr,forall_const,nuE,fr.2,Cz]
  simp only[E8,G3,Da,EP,D9,he,false_and,if_false]
  exact⟨trivial,SubA.refl _⟩
def WR(s:ByteArray)(L:List LR)(i:Nat):Except Nat Int:=
 if(BR L i).k≠2 then .error i
 else if BX (BR L (i+1)) 4 ⟨#[37]⟩=false then .error (i+1)
 else match X6 (s.extract (DF L i) (DF L (i+1)+1)).toList with
  |none=>.error i
  |some b=>.ok b
def rJ(s:ByteArray)(L:List LR)(i:Nat)(e w:Int)(i':Nat)(e' w' v:Int):Prop:=i'<L.length∧
 (e≠0→i'=i∧e'=e∧w'=w)∧(e=0→match WR s L i with
  | .ok b=>i'=i+2∧e'=0∧w'=w∧v=b
  | .error j=>e'=2∧w'=(DF L j:Int))
end Go.Proofs.YtfphceknmgadgaaGreatDoor
namespace Go.Proofs.YtfphceknmgadgaaGreatDoor
open Go.Vm
set_option maxHeartbeats 4000000
set_option maxRecDepth 20000
theorem nE(rb:Nat)(s pl:ByteArray)(bk off cap:Nat)(L:List LR)(A:AH)(hp:RqOk rb s pl bk off cap L A)(i:Nat)(x:LR)(hx:L[i]? =some x)(e w:Int):AM Tryz.prog 27 #[.pointer (some ⟨rb,0,none⟩)] (RQ rb s pl bk off cap L i e w A) (fun u_ A_=> ∃i' e' w' v,u_=.int .i64 v∧rJ s L i e w i' e' w' v∧SubA (RQ rb s pl bk off cap L i' e' w' A) A_):=by
 refine AR ⟨Tryz.prog,27,Tryz.f27,81,[0,2,3,4,5],⟨[23,24],none⟩,[(6,.q false)],_⟩ rfl (args:=[_]) Tryz.func27 rfl (by kernel_rfl) Tryz.ntmps27 (by simp) (by kernel_rfl) ?_
 intro ν fr;have nuE:=fr.nu
 obtain⟨cs,ty,fr0,h⟩:=hp.at hx
 have hlt:=(List.getElem?_eq_some_iff.1 hx).1
 have hl:=hp.hl
 have hc:=hp.hc
 have lt:((0:Int)<((L.length - i:Nat):Int))=True:=eq_true (by omega)
 have elx:=Ez hx
 by_cases he:e=0
 rotate_left
 ·have hn:(e !=0)=true:=by simp[he]
  have key:AM Tryz.prog 23 #[.pointer (some ⟨rb,0,none⟩),.int .i64 2] (RQ rb s pl bk off cap L i e w A) _:=EL rb s pl bk off cap L A hp i x hx e w 2
  simp only[RQ,FY]at key⊢
  simp (maxDischargeDepth:=16) only[AX,↓AW,simprocAttr,forall_const,nuE,fr.2,Cz,hn]
  refine AM.useX key (SubA.refl _) [] (SubA.nil _) (fun x hx=>absurd rfl hx) ?_
  rintro v D ⟨rfl,hD⟩ dD
  refine⟨_,hD, ?_⟩
  rw[List.append_nil]
  clear hD dD D nuE fr
  intro ν fr;have nuE:=fr.nu
  simp (maxDischargeDepth:=16) only[AX,↓AW,simprocAttr,forall_const,nuE,fr.2,Cz]
  refine⟨i,e,w,0,rfl,⟨hlt,fun _=>⟨rfl,rfl,rfl⟩,fun h=>absurd h he⟩, ?_⟩
  simp only[E8,G3,he,if_false]
  exact SubA.refl _
 subst he
 by_cases hk:x.k=2
 rotate_left
 ·have hn:(x.k !=2)=true:=by simp[hk]
  have key:AM Tryz.prog 23 #[.pointer (some ⟨rb,0,none⟩),.int .i64 2] (RQ rb s pl bk off cap L i 0 w A) _:=EL rb s pl bk off cap L A hp i x hx 0 w 2
  simp only[RQ,FY]at key⊢
  simp (maxDischargeDepth:=16) only[AX,↓AW,simprocAttr,forall_const,nuE,fr.2,Cz,lt,h.hb,h.n1,h.n2,h.c0,h.c1,h.c2,h.c3,hn]
  refine AM.useX key (SubA.refl _) [] (SubA.nil _) (fun x hx=>absurd rfl hx) ?_
  rintro v D ⟨rfl,hD⟩ dD
  refine⟨_,hD, ?_⟩
  rw[List.append_nil]
  clear hD dD D nuE fr
  intro ν fr;have nuE:=fr.nu
  simp (maxDischargeDepth:=16) only[AX,↓AW,simprocAttr,forall_const,nuE,fr.2,Cz]
  have hpc:WR s L i=.error i:=by unfold WR;rw[if_pos (by rw[elx];exact hk)]
  refine⟨i,2,(x.a:Int),0,rfl,⟨hlt,fun h=>absurd rfl h,fun _=>by rw[hpc];exact⟨rfl,by unfold DF;rw[elx]⟩⟩, ?_⟩
  simp only[E8,G3,if_true]
  exact SubA.refl _
 have hn:(x.k !=2)=false:=by simp[hk]
 have hnx:i+1<L.length:=DZ hp.he hx (by rw[hk];decide)
 obtain⟨y,hy,ely⟩:=Bw hnx
 obtain⟨cs2,ty2,fz2,h2⟩:=hp.at hy
 cases h.hb.symm.trans h2.hb
 have e4:off+(i+1)*4=off+i*4+4:=by omega
 obtain⟨p1,p2,p3⟩:=hp.po i (i+1) x y (by omega) hx hy
 have h4:=hp.s4
 have lt1:((1:Int)<((L.length - i:Nat):Int))=True:=eq_true (by omega)
 have s1:((1:Int)≤((L.length - i:Nat):Int))=True:=eq_true (by omega)
 have s2:(((L.length - i:Nat):Int)≤((cap - i:Nat):Int))=True:=eq_true (by omega)
 have cn:(cap - i=1)=False:=eq_false (by omega)
 have d0:=h2.c0
 have d1:=h2.c1
 have d3:=h2.c3
 rw[e4]at d0 d1 d3
 have r1:L.length - (i+1)=L.length - i - 1:=by omega
 have r2:cap - (i+1)=cap - i - 1:=by omega
 have eax:DF L i=x.a:=by unfold DF;rw[elx]
 have eay:DF L (i+1)=y.a:=by unfold DF;rw[ely]
 have must:=JN rb s pl bk off cap L A hp (i+1) y hy 0 w 4 ⟨#[37]⟩ (by decide)
 simp only[RQ,FY]at must
 rw[e4,r1,r2]at must
 by_cases hbad:BX y 4 ⟨#[37]⟩=false
 ·have hpc:WR s L i=.error (i+1):=by unfold WR;rw[if_neg (by rw[elx];simp[hk]),if_pos (by rw[ely];exact hbad)]
  rw[hbad]at must
  simp only[Da,EP,D9,Bool.false_eq_true,and_false,if_false,if_true]at must
  rw[e4,r1,r2]at must
  have fin: ∀D,SubA ((rb,Obj.cells #[.string s,.string pl,.slice (some ⟨bk,off+i*4+4,none⟩) (L.length - i - 1) (cap - i - 1),.int .i64 2,.int .i64 (y.a:Int)] 55)::A) D→ ∃i' e' w' v,Value.int .i64 0=.int .i64 v∧rJ s L i 0 w i' e' w' v∧SubA ((rb,Obj.cells #[.string s,.string pl,.slice (some ⟨bk,off+i'*4,none⟩) (L.length - i') (cap - i'),.int .i64 e',.int .i64 w'] 55)::A) D:=fun D hD=>⟨i+1,2,(y.a:Int),0,rfl,⟨hnx,fun h=>absurd rfl h,fun _=>by rw[hpc];exact⟨rfl,by rw[eay]⟩⟩,by rw[e4,r1,r2];exact hD⟩
  by_cases hy4:y.k=4
  ·have ht: ¬y.t.toList=ByteArray.toList ⟨#[37]⟩:=fun h=>by rw[BX,hy4,decide_eq_true h]at hbad;simp at hbad
   have hm:(y.t.toList !=ByteArray.toList ⟨#[37]⟩)=true:=by simp only[bne_iff_ne,ne_eq];exact ht
   simp only[RQ,FY]
   simp (maxDischargeDepth:=16) only[AX,↓AW,simprocAttr,forall_const,nuE,fr.2,Cz,lt,lt1,h.hb,h.n1,h.n2,h.c0,h.c1,h.c2,h.c3,hn,hm,hy4,eq_false ht,d0,d1,d3,s1,s2,cn]
   refine AM.useX must (SubA.refl _) [] (SubA.nil _) (fun x hx=>absurd rfl hx) ?_
   rintro v D ⟨rfl,hD⟩ dD
   refine⟨_,hD, ?_⟩
   rw[List.append_nil]
   clear hD dD D nuE fr
   intro ν fr;have nuE:=fr.nu
   simp (maxDischargeDepth:=16) only[AX,↓AW,simprocAttr,forall_const,nuE,fr.2,Cz]
   exact fin _ (SubA.refl _)
  ·have hm:(y.k !=4)=true:=by simp[hy4]
   simp only[RQ,FY]
   simp (maxDischargeDepth:=16) only[AX,↓AW,simprocAttr,forall_const,nuE,fr.2,Cz,lt,lt1,h.hb,h.n1,h.n2,h.c0,h.c1,h.c2,h.c3,hn,hm,eq_false hy4,d0,d1,d3,s1,s2,cn]
   refine AM.useX must (SubA.refl _) [] (SubA.nil _) (fun x hx=>absurd rfl hx) ?_
   rintro v D ⟨rfl,hD⟩ dD
   refine⟨_,hD, ?_⟩
   rw[List.append_nil]
   clear hD dD D nuE fr
   intro ν fr;have nuE:=fr.nu
   simp (maxDischargeDepth:=16) only[AX,↓AW,simprocAttr,forall_const,nuE,fr.2,Cz]
   exact fin _ (SubA.refl _)
 have hgood:BX y 4 ⟨#[37]⟩=true:=by simpa using hbad
 have hy4:=Bu hgood
 have ht:y.t.toList=ByteArray.toList ⟨#[37]⟩:=by simp only[BX,Bool.and_eq_true,decide_eq_true_eq]at hgood;exact hgood.2
 have p4:=p3 (by rw[hy4];decide)
 have wa:IntKind.i64.wrap ((y.a:Int)+1)=((y.a+1:Nat):Int):=by rw[Ak (by omega) (by omega)];omega
 have b2:((x.a:Int)≤((y.a+1:Nat):Int))=True:=eq_true (by omega)
 have b3:(((y.a+1:Nat):Int)≤(s.size:Int))=True:=eq_true (by omega)
 have hxs:(s.extract x.a (y.a+1)).size≤100000:=by rw[ByteArray.size_extract];omega
 have rv:=fun B=>LL (s.extract x.a (y.a+1)) hxs B
 rw[hgood]at must
 simp only[Da,EP,D9,and_self,if_true]at must
 by_cases hp0:(Ff (s.extract x.a (y.a+1)).toList).2=0
 ·have hpc:WR s L i=.ok (Ff (s.extract x.a (y.a+1)).toList).1:=by
   unfold WR
   rw[if_neg (by rw[elx];simp[hk]),if_neg (by rw[ely,hgood];simp),eax,eay]
   simp only[X6,hp0,if_true]
  have hm:((Ff (s.extract x.a (y.a+1)).toList).2 !=0)=false:=by simp[hp0]
  simp only[RQ,FY]
  simp (maxDischargeDepth:=16) only[AX,↓AW,simprocAttr,forall_const,nuE,fr.2,Cz,lt,lt1,h.hb,h.n1,h.n2,h.c0,h.c1,h.c2,h.c3,hn,hm,hp0,hy4,eq_true ht,d0,d1,d3,s1,s2,cn,wa,b2,b3,rv]
  refine AM.useX must (SubA.refl _) [] (SubA.nil _) (fun x hx=>absurd rfl hx) ?_
  rintro v D ⟨rfl,hD⟩ dD
  refine⟨_,hD, ?_⟩
  rw[List.append_nil]
  clear hD dD D nuE fr
  intro ν fr;have nuE:=fr.nu
  simp (maxDischargeDepth:=16) only[AX,↓AW,simprocAttr,forall_const,nuE,fr.2,Cz]
  exact⟨i+2,0,w,_,rfl,⟨DZ hp.he hy (by rw[hy4];decide),fun h=>absurd rfl h,fun _=>by rw[hpc];exact⟨rfl,rfl,rfl,rfl⟩⟩,SubA.refl _⟩
 ·have hm:((Ff (s.extract x.a (y.a+1)).toList).2 !=0)=true:=by simp[hp0]
  simp only[RQ,FY]
  simp (maxDischargeDepth:=16) only[AX,↓AW,simprocAttr,forall_const,nuE,fr.2,Cz,lt,lt1,h.hb,h.n1,h.n2,h.c0,h.c1,h.c2,h.c3,hn,hm,eq_false hp0,hy4,eq_true ht,d0,d1,d3,s1,s2,cn,wa,b2,b3,rv]
  have hpc:WR s L i=.error i:=by
   unfold WR
   rw[if_neg (by rw[elx];simp[hk]),if_neg (by rw[ely,hgood];simp),eax,eay]
   simp only[X6,hp0,if_false]
  have key:AM Tryz.prog 23 #[.pointer (some ⟨rb,0,none⟩),.int .i64 2] (RQ rb s pl bk off cap L i 0 w A) _:=EL rb s pl bk off cap L A hp i x hx 0 w 2
  simp only[RQ,FY,E8,G3,if_true]at key
  refine AM.useX key (SubA.refl _) [] (SubA.nil _) (fun x hx=>absurd rfl hx) ?_
  rintro v D ⟨rfl,hD⟩ dD
  refine⟨_,hD, ?_⟩
  rw[List.append_nil]
  clear hD dD D nuE fr
  intro ν fr;have nuE:=fr.nu
  simp (maxDischargeDepth:=16) only[AX,↓AW,simprocAttr,forall_const,nuE,fr.2,Cz]
  exact⟨i,2,(x.a:Int),0,rfl,⟨hlt,fun h=>absurd rfl h,fun _=>by rw[hpc];exact⟨rfl,by rw[eax]⟩⟩,SubA.refl _⟩
end Go.Proofs.YtfphceknmgadgaaGreatDoor
namespace Go.Proofs.YtfphceknmgadgaaGreatDoor
open Go.Vm
set_option maxHeartbeats 4000000
set_option maxRecDepth 20000
def YC(e:Int)(c h:Bool):Int:=if e=0 then(if c=true then(if h=true then 7 else 0)else 2)else e
def ao(e w:Int)(c h:Bool)(x:LR):Int:=if e=0 then(if c=true∧h=false then w else(x.a:Int))else w
theorem fu(rb:Nat)(s pl:ByteArray)(bk off cap:Nat)(L:List LR)(A:AH)(hp:RqOk rb s pl bk off cap L A)(i:Nat)(x:LR)(hx:L[i]? =some x)(e w:Int)(rp:Option Addr)(rcap:Nat)(rs:List Fuv)(hS:ES Fo 10 A rp rs)(hrl:rs.length≤1000):AM Tryz.prog 25 #[.pointer (some ⟨rb,0,none⟩),.slice rp rs.length rcap] (RQ rb s pl bk off cap L i e w A) (fun u_ A_=>u_=.string (if e=0∧F6 x=true then x.t else eB)∧SubA (RQ rb s pl bk off cap L (Da e (F6 x) i) (YC e (F6 x) (FC x.t rs)) (ao e w (F6 x) (FC x.t rs) x) A) A_):=by
 refine AR ⟨Tryz.prog,25,Tryz.f25,66,[0,1,4,5,6],⟨[23],none⟩,[],_⟩ rfl (args:=[_,_]) Tryz.func25 rfl (by kernel_rfl) Tryz.ntmps25 (by simp) (by kernel_rfl) ?_
 intro ν fr;have nuE:=fr.nu
 obtain⟨cs,ty,fr0,h⟩:=hp.at hx
 have hlt:=(List.getElem?_eq_some_iff.1 hx).1
 have hl:=hp.hl
 have hc:=hp.hc
 have lt:((0:Int)<((L.length - i:Nat):Int))=True:=eq_true (by omega)
 have ERR: ∀(e w:Int),AM Tryz.prog 23 #[.pointer (some ⟨rb,0,none⟩),.int .i64 2] (RQ rb s pl bk off cap L i e w A) _:=fun e w=>EL rb s pl bk off cap L A hp i x hx e w 2
 have ERR7: ∀(e w:Int),AM Tryz.prog 23 #[.pointer (some ⟨rb,0,none⟩),.int .i64 7] (RQ rb s pl bk off cap L i e w A) _:=fun e w=>EL rb s pl bk off cap L A hp i x hx e w 7
 simp only[RQ,FY]at ERR ERR7⊢
 by_cases he:e=0
 rotate_left
 ·have hn:(e !=0)=true:=by simp[he]
  simp (maxDischargeDepth:=16) only[AX,↓AW,simprocAttr,forall_const,nuE,fr.2,Cz,hn]
  refine AM.useX (ERR e w) (SubA.refl _) [] (SubA.nil _) (fun x hx=>absurd rfl hx) ?_
  rintro v D ⟨rfl,hD⟩ dD
  refine⟨_,hD, ?_⟩
  rw[List.append_nil]
  clear hD dD D nuE fr
  intro ν fr;have nuE:=fr.nu
  simp (maxDischargeDepth:=16) only[AX,↓AW,simprocAttr,forall_const,nuE,fr.2,Cz]
  simp only[E8,G3,Da,YC,ao,he,false_and,if_false]
  exact⟨rfl,SubA.refl _⟩
 subst he
 have BAD:F6 x=false→ ∀D,SubA ((rb,Obj.cells #[.string s,.string pl,.slice (some ⟨bk,off+i*4,none⟩) (L.length - i) (cap - i),.int .i64 2,.int .i64 x.a] 55)::A) D→(Value.string ⟨#[]⟩=.string (if F6 x=true then x.t else eB)∧SubA ((rb,Obj.cells #[.string s,.string pl,.slice (some ⟨bk,off+Da 0 (F6 x) i*4,none⟩) (L.length - Da 0 (F6 x) i) (cap - Da 0 (F6 x) i),.int .i64 (YC 0 (F6 x) (FC x.t rs)),.int .i64 (ao 0 w (F6 x) (FC x.t rs) x)] 55)::A) D):=fun hb D hD=>by
  rw[hb]
  simp only[Da,YC,ao,Bool.false_eq_true,and_false,false_and,if_false,if_true]
  exact⟨rfl,hD⟩
 by_cases hk:x.k=1
 rotate_left
 ·have hn:(x.k !=1)=true:=by simp[hk]
  simp (maxDischargeDepth:=16) only[AX,↓AW,simprocAttr,forall_const,nuE,fr.2,Cz,lt,h.hb,h.n1,h.n2,h.c0,h.c1,h.c2,h.c3,hn]
  refine AM.useX (ERR 0 w) (SubA.refl _) [] (SubA.nil _) (fun x hx=>absurd rfl hx) ?_
  rintro v D ⟨rfl,hD⟩ dD
  refine⟨_,hD, ?_⟩
  rw[List.append_nil]
  clear hD dD D nuE fr
  simp only[E8,G3,if_true]
  intro ν fr;have nuE:=fr.nu
  simp (maxDischargeDepth:=16) only[AX,↓AW,simprocAttr,forall_const,nuE,fr.2,Cz]
  exact BAD (by simp[F6,hk]) _ (SubA.refl _)
 have hn:(x.k !=1)=false:=by simp[hk]
 have hnf:=hp.wf i x hx hk
 cases hr:Xl x.t with
 |true=>
  have hf:(!(Xl x.t)&&DS x.t)=false:=by simp[hr]
  simp (maxDischargeDepth:=16) only[AX,↓AW,simprocAttr,forall_const,nuE,fr.2,Cz,lt,h.hb,h.n1,h.n2,h.c0,h.c1,h.c2,h.c3,hn,hf]
  refine AM.useX (ERR 0 w) (SubA.refl _) [] (SubA.nil _) (fun x hx=>absurd rfl hx) ?_
  rintro v D ⟨rfl,hD⟩ dD
  refine⟨_,hD, ?_⟩
  rw[List.append_nil]
  clear hD dD D nuE fr
  simp only[E8,G3,if_true]
  intro ν fr;have nuE:=fr.nu
  simp (maxDischargeDepth:=16) only[AX,↓AW,simprocAttr,forall_const,nuE,fr.2,Cz]
  exact BAD (by simp[F6,hr]) _ (SubA.refl _)
 | false=>
  have hf:(!(Xl x.t)&&DS x.t)=true:=by simp[hr,hnf]
  have hfn:F6 x=true:=by simp[F6,hr,hk]
  have s1:((1:Int)≤((L.length - i:Nat):Int))=True:=eq_true (by omega)
  have s2:(((L.length - i:Nat):Int)≤((cap - i:Nat):Int))=True:=eq_true (by omega)
  have hnx:=DZ hp.he hx (by rw[hk];decide)
  have cn:(cap - i=1)=False:=eq_false (by omega)
  simp (maxDischargeDepth:=16) only[AX,↓AW,simprocAttr,forall_const,nuE,fr.2,Cz,lt,h.hb,h.n1,h.n2,h.c0,h.c1,h.c2,h.c3,hn,hf]
  clear nuE fr ERR BAD
  obtain⟨k,e3,w3,hk0,he3,hw3,hkl,hE,hW⟩: ∃(k:Nat) (e3 w3:Int),k=0∧e3=0∧w3=w∧k≤rs.length∧e3=YC 0 true (FC x.t (rs.take k))∧w3=ao 0 w true (FC x.t (rs.take k)) x:=⟨0,0,w,rfl,rfl,rfl,by omega,rfl,rfl⟩
  rw[show(6,some (Value.int .i64 0))=(6,some (Value.int .i64 (k:Int))) by rw[hk0];rfl,show Obj.cells #[.string s,.string pl,.slice (some ⟨bk,off+i*4,none⟩) (L.length - i) (cap - i),.int .i64 0,.int .i64 w] 55=Obj.cells #[.string s,.string pl,.slice (some ⟨bk,off+i*4,none⟩) (L.length - i) (cap - i),.int .i64 e3,.int .i64 w3] 55 by rw[he3,hw3]]
  clear hk0 he3 hw3
  generalize hkm:rs.length - k=km
  induction km generalizing k e3 w3 with
  |zero=>
   have ltk:((k:Int)<(rs.length:Int))=False:=eq_false (by omega)
   rw[List.take_of_length_le (by omega)]at hE hW
   refine Ah.intro (by kernel_rfl) ?_
   intro ν fr;have nuE:=And.intro (fr.mem (b:=rb) (by simp)) (fr.nu)
   simp (maxDischargeDepth:=16) only[AX,↓AW,simprocAttr,forall_const,nuE,fr.2,Cz,ltk,lt,s1,s2,cn,hfn]
   rw[←hE,←hW]
   simp only[Da,and_self,if_true]
   rw[show off+(i+1)*4=off+i*4+4 by omega,show L.length - (i+1)=L.length - i - 1 by omega,show cap - (i+1)=cap - i - 1 by omega]
   exact SubA.refl _
  | succ km ihk=>
   obtain⟨r,hr1⟩: ∃r,rs[k]? =some r:=⟨_,List.getElem?_eq_getElem (by omega)⟩
   obtain⟨bq,offq,csq,tyq,frq,hq0,hbq,hcq,hcqc⟩:=hS.at hr1
   have cq:csq[offq+k*10]? =some (.string r.nm):=hcqc 0 _ rfl
   have ltk:((k:Int)<(rs.length:Int))=True:=eq_true (by omega)
   have lik:((k:Int)<0)=False:=eq_false (by omega)
   have wk:IntKind.i64.wrap ((k:Int)+1)=((k+1:Nat):Int):=by rw[Ak (by omega) (by omega)];omega
   obtain⟨u1,u2⟩:=BF hp.nr hbq
   have htk:rs.take (k+1)=rs.take k++[r]:=by rw[List.take_add_one,hr1];rfl
   have hhv:FC x.t (rs.take (k+1))=(FC x.t (rs.take k)||decide (r.nm.toList=x.t.toList)):=by rw[htk];simp[FC]
   subst hq0
   refine Ah.intro (by kernel_rfl) ?_
   intro ν fr;have nuE:=And.intro (fr.mem (b:=rb) (by simp)) (fr.nu)
   by_cases hs:r.nm.toList=x.t.toList
   ·simp (maxDischargeDepth:=16) only[AX,↓AW,simprocAttr,forall_const,nuE,fr.2,Cz,ltk,lik,wk,hbq,cq,u1,u2,eq_true hs]
    refine AM.useX (ERR7 e3 w3) (SubA.refl _) [] (SubA.nil _) (fun x hx=>absurd rfl hx) ?_
    rintro v D ⟨rfl,hD⟩ dD
    refine⟨_,hD, ?_⟩
    rw[List.append_nil]
    clear hD dD D nuE fr
    intro ν fr;have nuE:=And.intro (fr.mem (b:=rb) (by simp)) (fr.nu)
    simp (maxDischargeDepth:=16) only[AX,↓AW,simprocAttr,forall_const,nuE,fr.2,Cz,wk]
    exact Ah.weak (ihk (k+1) (E8 e3 7) (G3 e3 w3 x) (by omega) (by rw[hhv,hE];simp only[YC,E8,decide_eq_true hs,Bool.or_true,if_true];split<;>rfl) (by rw[hhv,hE,hW];simp only[YC,ao,G3,decide_eq_true hs,Bool.or_true,if_true];cases FC x.t (rs.take k)<;>simp) (by omega)) (by simp only[BW,Ab,Nat.reduceEqDiff,↓reduceIte,reduceCtorEq,Nat.reduceAdd,and_self,and_true]) (SubA.refl _)
   ·simp (maxDischargeDepth:=16) only[AX,↓AW,simprocAttr,forall_const,nuE,fr.2,Cz,ltk,lik,wk,hbq,cq,u1,u2,eq_false hs]
    exact Ah.weak (ihk (k+1) e3 w3 (by omega) (by rw[hhv,hE,decide_eq_false hs,Bool.or_false]) (by rw[hhv,hW,decide_eq_false hs,Bool.or_false]) (by omega)) (by simp only[BW,Ab,Nat.reduceEqDiff,↓reduceIte,reduceCtorEq,Nat.reduceAdd,and_self,and_true]) (SubA.refl _)
end Go.Proofs.YtfphceknmgadgaaGreatDoor
namespace Go.Proofs.YtfphceknmgadgaaGreatDoor
open Go.Vm
set_option maxHeartbeats 4000000
set_option maxRecDepth 20000
theorem RqOk.mono{rb:Nat}{s pl:ByteArray}{bk off cap:Nat}{L:List LR}{A B:AH}(h:RqOk rb s pl bk off cap L A)(hs:SubA A B)(hn:Vm.AA B rb=none):RqOk rb s pl bk off cap L B:=⟨hn,h.hL.mono hs,h.hl,h.hc,h.he,h.sz,h.s4,h.wf,h.po⟩
def rW(pl:ByteArray)(L:List LR)(i:Nat)(e w:Int)(A2:AH)(r:Xr)(i':Nat)(e' w':Int):Prop:=
 (e≠0∧i'=i∧e'=e∧w'=w)∨(e=0∧ ∃(ee:Int) (a:Nat) (t:Xs),PxO (pl.extract (DF L i) (DF L (exJ L i))) ee a t∧((ee=0∧e'=0∧w'=w∧i'=exJ L i∧ExR A2 t r)∨(ee≠0∧e'=ee∧w'=((DF L i+a:Nat):Int))))
theorem fM(rb:Nat)(s pl:ByteArray)(bk off cap:Nat)(L:List LR)(A:AH)(hp:RqOk rb s pl bk off cap L A)(i:Nat)(hi:i<L.length)(e w:Int):AM Tryz.prog 26 #[.pointer (some ⟨rb,0,none⟩)] (RQ rb s pl bk off cap L i e w A) (fun u_ A_=> ∃r i' e' w' A2,u_=C5 r∧i'<L.length∧SubA A A2∧Vm.AA A2 rb=none∧rW pl L i e w A2 r i' e' w'∧SubA (RQ rb s pl bk off cap L i' e' w' A2) A_):=by
 refine AR ⟨Tryz.prog,26,Tryz.f26,97,[0,2,3,4,5,6,7],⟨[65],none⟩,[],_⟩ rfl (args:=[_]) Tryz.func26 rfl (by kernel_rfl) Tryz.ntmps26 (by simp) (by kernel_rfl) ?_
 intro ν fr;have nuE:=fr.nu
 have f0:=fr.2 0
 obtain⟨m3,m4⟩:(ν 0=rb)=False∧(rb=ν 0)=False:=BF f0 (show Vm.AA (RQ rb s pl bk off cap L i e w A) rb=some (FY s pl bk off L.length cap i e w) by simp[RQ,Vm.AA])
 have hA0:Vm.AA A (ν 0)=none:=(SubA.skip hp.nr (SubA.refl A)).none f0
 by_cases he:e=0
 rotate_left
 ·have hn:(e !=0)=true:=by simp[he]
  simp only[RQ,FY]
  simp (maxDischargeDepth:=16) only[AX,↓AW,simprocAttr,forall_const,nuE,fr.2,Cz,hn,m3,m4]
  exact⟨r0,i,e,w,A,rfl,hi,SubA.refl _,hp.nr,.inl ⟨he,rfl,rfl,rfl⟩,SubA.skip (AK m4 hA0) (SubA.refl _)⟩
 subst he
 obtain⟨x,hx,elx⟩:=Bw hi
 obtain⟨cs,ty,fr0,h⟩:=hp.at hx
 have hl:=hp.hl
 have hc:=hp.hc
 have lt:((0:Int)<((L.length - i:Nat):Int))=True:=eq_true (by omega)
 obtain⟨q1,q2⟩:=BF hA0 h.hb
 have eat:DF L i=x.a:=by unfold DF;rw[elx]
 simp only[RQ,FY]at f0⊢
 simp (maxDischargeDepth:=16) only[AX,↓AW,simprocAttr,forall_const,nuE,fr.2,Cz,lt,m3,m4,q1,q2,h.hb,h.n1,h.n2,h.c0,h.c1,h.c2,h.c3]
 have dst_:True:=(by simp[nuE]);generalize ν 0=n2 at dst_  f0 m3 m4 hA0 q1 q2⊢
 clear nuE fr
 obtain⟨k,hk0,hj,hex⟩: ∃k:Nat,k=0∧i+k<L.length∧U3 L (L.length - (i+k)) (i+k)=exJ L i:=⟨0,rfl,hi,rfl⟩
 rw[show(4,some (Value.int .i64 0))=(4,some (Value.int .i64 (k:Int))) by rw[hk0];rfl]
 clear hk0
 generalize hm:L.length - (i+k)=m at hex
 induction m generalizing k with
 |zero=>omega
 | succ m ih=>
  obtain⟨y,hy,ely⟩:=Bw hj
  obtain⟨cs2,ty2,fz2,h2⟩:=hp.at hy
  cases h.hb.symm.trans h2.hb
  have e4:off+(i+k)*4=off+i*4+k*4:=by omega
  have d0:=h2.c0
  have d1:=h2.c1
  have d3:=h2.c3
  rw[e4]at d0 d1 d3
  have ltk:((k:Int)<((L.length - i:Nat):Int))=True:=eq_true (by omega)
  have lik:((k:Int)<0)=False:=eq_false (by omega)
  have wk:IntKind.i64.wrap ((k:Int)+1)=((k+1:Nat):Int):=by rw[Ak (by omega) (by omega)];omega
  simp only[U3]at hex
  refine Ah.intro (by kernel_rfl) ?_
  intro ν fr;have nuE:=And.intro (fr.mem (b:=n2) (by simp)) (And.intro (fr.mem (b:=rb) (by simp)) (fr.nu))
  by_cases hstop:y.k=0∨FX y=true
  rotate_left
  ·have hk:y.k≠0:=fun h=>hstop (.inl h)
   have hk':(y.k !=0)=true:=by simp[hk]
   rw[if_neg (by rw[ely];exact hstop)]at hex
   have hlt:i+(k+1)<L.length:=DZ hp.he hy hk
   by_cases hk4:y.k=4
   ·have ht: ¬y.t.toList=ByteArray.toList ⟨#[58]⟩:=fun h=>hstop (.inr (by simp[FX,BX,hk4,h]))
    simp (maxDischargeDepth:=16) only[AX,↓AW,simprocAttr,forall_const,nuE,fr.2,Cz,ltk,lik,wk,m3,m4,q1,q2,h.hb,h.n1,h.n2,d0,d1,d3,eq_false hk,hk',hk4,eq_false ht]
    exact Ah.weak (ih (k+1) hlt (by omega) hex) (by simp only[BW,Ab,Nat.reduceEqDiff,↓reduceIte,reduceCtorEq,Nat.reduceAdd,and_self,and_true]) (SubA.refl _)
   ·simp (maxDischargeDepth:=16) only[AX,↓AW,simprocAttr,forall_const,nuE,fr.2,Cz,ltk,lik,wk,m3,m4,q1,q2,h.hb,h.n1,h.n2,d0,d1,d3,eq_false hk,hk',eq_false hk4]
    exact Ah.weak (ih (k+1) hlt (by omega) hex) (by simp only[BW,Ab,Nat.reduceEqDiff,↓reduceIte,reduceCtorEq,Nat.reduceAdd,and_self,and_true]) (SubA.refl _)
  rw[if_pos (by rw[ely];exact hstop)]at hex
  obtain⟨p1,p2,p3⟩:=hp.po i (i+k) x y (by omega) hx hy
  have h4:=hp.s4
  have hsz:=hp.sz
  have b2:((x.a:Int)≤(y.a:Int))=True:=eq_true (by omega)
  have b3:((y.a:Int)≤(pl.size:Int))=True:=eq_true (by omega)
  have hxs:(pl.extract x.a y.a).size≤100000:=by rw[ByteArray.size_extract];omega
  have eay:DF L (exJ L i)=y.a:=by unfold DF;rw[←hex,ely]
  have hexl:exJ L i<L.length:=by rw[←hex];exact hj
  have esx:pl.extract (DF L i) (DF L (exJ L i))=pl.extract x.a y.a:=by rw[eat,eay]
  have wa: ∀(e:Int) (a:Nat) (t:Xs),PxO (pl.extract x.a y.a) e a t→IntKind.i64.wrap ((x.a:Int)+(a:Int))=((x.a+a:Nat):Int):=fun e a t h=>by
   have:=Tm h
   rw[ByteArray.size_extract]at this
   rw[Ak (by omega) (by omega)];omega
  have hcs:y.k=0∨(y.k≠0∧y.k=4∧y.t.toList=ByteArray.toList ⟨#[58]⟩):=by
   rcases hstop with h0|h0
   ·exact .inl h0
   ·simp only[FX,BX,Bool.and_eq_true,decide_eq_true_eq]at h0
    exact .inr ⟨by rw[h0.1];decide,h0⟩
  have sk1:((k:Int)≤((L.length - i:Nat):Int))=True:=eq_true (by omega)
  have s2:(((L.length - i:Nat):Int)≤((cap - i:Nat):Int))=True:=eq_true (by omega)
  have cn:(cap - i=k)=False:=eq_false (by omega)
  have r1:L.length - (i+k)=L.length - i - k:=by omega
  have r2:cap - (i+k)=cap - i - k:=by omega
  clear ih hstop
  rcases hcs with hk|⟨hk,hk4,ht⟩
  have hk':(y.k !=0)=false:=by simp[hk]
  simp (maxDischargeDepth:=16) only[AX,↓AW,simprocAttr,forall_const,nuE,fr.2,Cz,ltk,lik,wk,m3,m4,q1,q2,h.hb,h.n1,h.n2,d0,d1,d3,hk,hk',b2,b3]
  rotate_left
  have hk':(y.k !=0)=true:=by simp[hk]
  simp (maxDischargeDepth:=16) only[AX,↓AW,simprocAttr,forall_const,nuE,fr.2,Cz,ltk,lik,wk,m3,m4,q1,q2,h.hb,h.n1,h.n2,d0,d1,d3,eq_false hk,hk',hk4,eq_true ht,b2,b3]
  all_goals
   clear nuE fr
   refine CO.tree [20] (.one 0 0 (.one 1 0 (.one 2 0 (.one 3 0 (.one 4 0 (.one 5 0 (.one 6 0 (.one 7 0 (.one 8 0 (.one 9 0 (.one 10 0 (.one 11 0 (.one 12 0 (.one 13 0 (.two 14 1 (.one 15 0 (.one 16 0 (.one 17 0 (.one 18 0 (.one 19 1 (.one 20 2 (.one 21 0 (.one 22 0 .nil)))))))) 19 0 (.one 14 1 (.one 15 0 (.one 16 0 (.one 17 0 (.one 18 0 (.one 20 2 (.one 21 0 (.one 22 0 .nil))))))))))))))))))))))) _ (SubA.refl _) (by kernel_rfl) (by kernel_rfl) (by kernel_rfl) (by kernel_rfl) (by kernel_rfl) ?_
   intro ν fr;have nuE:=And.intro (fr.mem (b:=n2) (by simp)) (And.intro (fr.mem (b:=rb) (by simp)) (fr.nu))
   simp (maxDischargeDepth:=16) only[AX,↓AW,simprocAttr,forall_const,nuE,fr.2,Cz,E5,Ew,E3,ltk,lik,wk,m3,m4,q1,q2,h.hb,h.n1,h.n2,d0,d1,d3,b2,b3]
   refine⟨?_, ?_⟩
   ·refine AM.ownX (Y:=[(n2,_),(rb,_)]) (XH A (pl.extract x.a y.a) hxs) (dis2 hA0 hp.nr) ?_
    rintro v D ⟨_,B,rfl,⟨e,a,t,r,hP,rfl,hr⟩,hBA,hD⟩ dD
    refine⟨B++A,hD, ?_⟩
    have dB:=dD.subl hD
    have gB:Vm.AA (B++A) n2=none:=dB n2 (by simp[Vm.AA])
    have gp:Vm.AA (B++A) rb=none:=dB rb (by simp[Vm.AA,m3])
    clear hD dD D nuE fr
    simp only[List.cons_append,List.nil_append,C5]
    intro ν fr;have nuE:=And.intro (fr.mem (b:=n2) (by simp)) (And.intro (fr.mem (b:=rb) (by simp)) (fr.nu))
    have g4:=fr.2 0
    have m6:=(BF g4 (show Vm.AA _ rb=some (Obj.cells #[.string s,.string pl,.slice (some ⟨bk,off+i*4,none⟩) (L.length - i) (cap - i),.int .i64 0,.int .i64 w] 55) by simp[Vm.AA,m3])).2
    have g4A:Vm.AA (B++A) (ν 0)=none:=(show SubA (B++A) ((n2,_)::(rb,_)::(B++A)) from SubA.skip gB (SubA.skip gp (SubA.refl _))).none g4
    have wv:=wa e a t hP
    have hbB:Vm.AA (B++A) bk=some (.cells cs ty fr0):=hBA.right _ _ h.hb
    rw[←esx]at hP
    by_cases he:e=0
    ·have he':(e !=0)=false:=by simp[he]
     simp (maxDischargeDepth:=16) only[AX,↓AW,simprocAttr,forall_const,nuE,fr.2,Cz,E5,Ew,E3,m3,m4,Ck,he,he',ltk,lik,q1,q2,hbB,h.n1,h.n2,wv,sk1,s2,cn]
     refine⟨SubA.app (B:=[_,_]) hBA.right,r,i+k,0,w,B++A,rfl,hj,hBA.right,gp,.inr ⟨rfl,e,a,t,hP,.inl ⟨he,rfl,rfl,hex,hr.mono (SubA.left _ _)⟩⟩, ?_⟩
     rw[e4,r1,r2]
     exact SubA.skip (AK m6 g4A) (SubA.skip (AK m4 gB) (SubA.refl _))
    ·have he':(e !=0)=true:=by simp[he]
     simp (maxDischargeDepth:=16) only[AX,↓AW,simprocAttr,forall_const,nuE,fr.2,Cz,E5,Ew,E3,m3,m4,Ck,eq_false he,he',ltk,lik,q1,q2,hbB,h.n1,h.n2,wv]
     exact⟨SubA.app (B:=[_,_]) hBA.right,r0,i,e,_,B++A,rfl,hi,hBA.right,gp,.inr ⟨rfl,e,a,t,hP,.inr ⟨he,rfl,by rw[eat]⟩⟩,SubA.skip (AK m6 g4A) (SubA.skip (AK m4 gB) (SubA.refl _))⟩
   ·have f4:=fr.2 0
    obtain⟨m5,m6⟩:=BF f4 (show Vm.AA _ rb=some (Obj.cells #[.string s,.string pl,.slice (some ⟨bk,off+i*4,none⟩) (L.length - i) (cap - i),.int .i64 0,.int .i64 w] 55) by simp[Vm.AA,m3])
    obtain⟨m7,m8⟩:=BF f4 (show Vm.AA _ n2=some (Obj.cells #[.int .i64 0,.string ⟨#[]⟩,.string ⟨#[]⟩,.int .i64 0,.slice none 0 0] 36) by simp[Vm.AA])
    have g4A:Vm.AA A (ν 0)=none:=(show SubA A ((n2,_)::(rb,_)::A) from SubA.skip hA0 (SubA.skip hp.nr (SubA.refl _))).none f4
    have dst_:True:=(by simp[nuE]);generalize ν 0=n4 at dst_  f4 m5 m6 m7 m8 g4A⊢
    refine AM.ownX (Y:=[(n4,_),(n2,_),(rb,_)]) (XH A (pl.extract x.a y.a) hxs) (Tj g4A hA0 hp.nr) ?_
    rintro v D ⟨_,B,rfl,⟨e,a,t,r,hP,rfl,hr⟩,hBA,hD⟩ dD
    refine⟨B++A,hD, ?_⟩
    have dB:=dD.subl hD
    have gB4:Vm.AA (B++A) n4=none:=dB n4 (by simp[Vm.AA])
    have gB:Vm.AA (B++A) n2=none:=dB n2 (by simp[Vm.AA,m7])
    have gp:Vm.AA (B++A) rb=none:=dB rb (by simp[Vm.AA,m3,m5])
    clear hD dD D nuE fr
    simp only[List.cons_append,List.nil_append,C5]
    intro ν fr;have nuE:=And.intro (fr.mem (b:=n4) (by simp)) (And.intro (fr.mem (b:=n2) (by simp)) (And.intro (fr.mem (b:=rb) (by simp)) (fr.nu)))
    have wv:=wa e a t hP
    have hbB:Vm.AA (B++A) bk=some (.cells cs ty fr0):=hBA.right _ _ h.hb
    rw[←esx]at hP
    by_cases he:e=0
    ·have he':(e !=0)=false:=by simp[he]
     simp (maxDischargeDepth:=16) only[AX,↓AW,simprocAttr,forall_const,nuE,fr.2,Cz,E5,Ew,E3,m3,m4,m5,m6,m7,m8,Ck,he,he',ltk,lik,q1,q2,hbB,h.n1,h.n2,wv,sk1,s2,cn]
     refine⟨SubA.skip (AK m8 (AK m6 g4A)) (SubA.app (B:=[_,_]) hBA.right),r,i+k,0,w,B++A,rfl,hj,hBA.right,gp,.inr ⟨rfl,e,a,t,hP,.inl ⟨he,rfl,rfl,hex,hr.mono (SubA.left _ _)⟩⟩, ?_⟩
     rw[e4,r1,r2]
     exact SubA.skip (AK m6 gB4) (SubA.skip (AK m4 gB) (SubA.refl _))
    ·have he':(e !=0)=true:=by simp[he]
     simp (maxDischargeDepth:=16) only[AX,↓AW,simprocAttr,forall_const,nuE,fr.2,Cz,E5,Ew,E3,m3,m4,m5,m6,m7,m8,Ck,eq_false he,he',ltk,lik,q1,q2,hbB,h.n1,h.n2,wv]
     exact⟨SubA.skip (AK m8 (AK m6 g4A)) (SubA.app (B:=[_,_]) hBA.right),r0,i,e,_,B++A,rfl,hi,hBA.right,gp,.inr ⟨rfl,e,a,t,hP,.inr ⟨he,rfl,by rw[eat]⟩⟩,SubA.skip (AK m6 gB4) (SubA.skip (AK m4 gB) (SubA.refl _))⟩
end Go.Proofs.YtfphceknmgadgaaGreatDoor
