/-
Expressions written.
Conditions: none.
-/
import Derived.Test.YtfphceknmgadgaaGreatDoorQm
set_option linter.unusedSimpArgs false
set_option linter.unusedVariables false
namespace Go.Proofs.YtfphceknmgadgaaGreatDoor
open Go.Vm
set_option maxHeartbeats 4000000
set_option maxRecDepth 20000
theorem DQ:type_of% (An @BR (An @Be (An @Bd (An @BF (An @BQ (An @Bf (An @CG (An @BX (An @CX (An @Cn (An @CZ (An @Cp (An @DB (An @Cq (An @CW (An @CD (An @CC (An @Co (An @Bw (An @CE (An @CY (An @CF (An @CH (An @AW (An @AP (An @Av (An @Aw (An @Am (An @BN (An @Ar (An @A7 (An @A8 (An @BA (An @BB (An @BD (An @BH (An @BK (An @Cy (An @AU (An @AR (An @Ab (An @Ac (An @Aq (An @Bh (An @CS @Eu))))))))))))))))))))))))))))))))))))))))))))):=⟨@BR,@Be,@Bd,@BF,@BQ,@Bf,@CG,@BX,@CX,@Cn,@CZ,@Cp,@DB,@Cq,@CW,@CD,@CC,@Co,@Bw,@CE,@CY,@CF,@CH,@AW,@AP,@Av,@Aw,@Am,@BN,@Ar,@A7,@A8,@BA,@BB,@BD,@BH,@BK,@Cy,@AU,@AR,@Ab,@Ac,@Aq,@Bh,@CS,@Eu⟩
def Ev(op:Int):Int:=if op=7 then 1 else if op=6 then 2 else if op=8∨op=9∨op=10∨op=11∨op=15 then 3 else if op=12∨op=13 then 4 else if op=14 then 5 else 6
def Hh(op:Int):List UInt8:=if op=7 then [111,114]else if op=6 then [97,110,100]else if op=8 then [61]else if op=9 then [33,61]else if op=10 then [60]else if op=11 then [60,61]else if op=12 then [43]else if op=13 then [45]else [42]
def WS(k:Int)(p:Int×List UInt8):List UInt8:=if k≤Ev p.1 then p.2 else 40::(p.2++[41])
def Wd(l:List (Int×List UInt8))(i:Nat)(k:Int):List UInt8:=WS k (l.getD i (0,[]))
def MS(l:List (Int×List UInt8)):List UInt8:=l.flatMap fun p=>[44,32]++WS 4 p
def Mn:List (Int×List UInt8)→List UInt8
 | []=>[]
 |p::l=>WS 4 p++MS l
def L4(op:Int):Int:=if Ev op=3 then 4 else Ev op
def CP(op:Int)(nm tx:ByteArray)(n:Int)(l:List (Int×List UInt8)):List UInt8:=
 if op=1 then Lib.itoa n
 else if op=2 then 34::(tx.data.toList++[34])
 else if op=3 then nm.data.toList
 else if op=16 then [99,111,117,110,116,40]++nm.data.toList++[44,32]++Lib.itoa n++[41]
 else if op=17 then [115,117,109,40]++nm.data.toList++[44,32]++Lib.itoa n++[41]
 else if op=4 then [110,111,116,32]++Wd l 0 6
 else if op=5 then 45::Wd l 0 6
 else if op=15 then Wd l 0 4++[32,105,110,32,40]++Mn (l.drop 1)++[41]
 else Wd l 0 (L4 op)++([32]++Hh op++[32])++Wd l 1 (Ev op+1)
def opO:Xs→Int
 | .mk op _ _ _ _=>op
mutual
def tX:Xs→List UInt8
 | .mk op nm tx n args=>CP op nm tx n (tL args)
def tL:List Xs→List (Int×List UInt8)
 | []=>[]
 |x::l=>(opO x,tX x)::tL l
end
theorem Ea: ∀l:List Xs,tL l=l.map fun x=>(opO x,tX x)
 | []=>by simp[tL]
 |x::l=>by simp[tL,Ea l]
def GG(k:Int)(t:Xs):List UInt8:=WS k (opO t,tX t)
theorem lvV_h(op:Int):Ak Tryz.prog 116 #[.int .i64 op] [] (fun u_ _=>u_=.int .i64 (Ev op)):=by
 refine AQ ⟨Tryz.prog,116,Tryz.f116,19,[0,2,3],⟨[],none⟩,[],_⟩ rfl (args:=[_]) Tryz.func116 rfl (by kernel_rfl) Tryz.ntmps116 (by simp) (by kernel_rfl) ?_
 intro ν fr;have nuE:=fr.nu
 simp (maxDischargeDepth:=16) only[Af,↓Ae,simprocAttr,forall_const,nuE,fr.2,DQ,↓AK,↓AJ,AU,AR,Ab,Ac,Aq]
 unfold Ev
 repeat' split
 all_goals simp_all
theorem CR(op:Int)(A_:AH):Bi Tryz.prog 116 #[.int .i64 op] A_=some (.int .i64 (Ev op)):=BP (B7 (by kernel_rfl) (lvV_h op))
theorem syV_h(op:Int):Ak Tryz.prog 140 #[.int .i64 op] [] (fun u_ _=>u_=.string (bs (Hh op))):=by
 refine AQ ⟨Tryz.prog,140,Tryz.f140,20,[0,2,3],⟨[],none⟩,[],_⟩ rfl (args:=[_]) Tryz.func140 rfl (by kernel_rfl) Tryz.ntmps140 (by simp) (by kernel_rfl) ?_
 intro ν fr;have nuE:=fr.nu
 simp (maxDischargeDepth:=16) only[Af,↓Ae,simprocAttr,forall_const,nuE,fr.2,DQ,↓AK,↓AJ,AU,AR,Ab,Ac,Aq,CR]
 unfold Hh
 repeat' split
 all_goals simp_all[bs]
theorem CU(op:Int)(A_:AH):Bi Tryz.prog 140 #[.int .i64 op] A_=some (.string (bs (Hh op))):=BP (B7 (by kernel_rfl) (syV_h op))
theorem Xi{P:Program}{g:FuncId}{args:Array Value}{E Y A:AH}{b:Nat}{acc:List UInt8}{u0:Value}{K:Value→AH→Prop}(hc:Ak P g args (E++A) fun u D=>u=u0∧ ∃E',FX E' b acc∧Dis E' A∧SubA (E'++A) D)(hd:Dis (E++A) Y)
  (hk: ∀E',FX E' b acc→Dis E' A→Dis (E'++A) Y→K u0 (Y++(E'++A))):Ak P g args (Y++(E++A)) K:=by
 refine Ak.toX hc hd.symm.right Y (SubA.left _ _) hd ?_
 rintro v D ⟨rfl,E',h1,h2,h3⟩ dD
 exact⟨_,SubA.front dD h3,hk E' h1 h2 (dD.subl h3)⟩
theorem W7{P:Program}{g:FuncId}{args:Array Value}{E Y A:AH}{b:Nat}{acc:List UInt8}{u0:Value}{K:Value→AH→Prop}(hc:Ak P g args E fun u A'=>u=u0∧ ∃E',FX E' b acc∧SubA E' A'∧ ∀b,Vm.AA E b≠none→Vm.AA A' b≠none)(hE:Dis E A)(hd:Dis (E++A) Y)
  (hk: ∀E',FX E' b acc→Dis E' A→Dis (E'++A) Y→K u0 (Y++(E'++A))):Ak P g args (Y++(E++A)) K:=by
 refine Xi (E:=E) (A:=A) (acc:=acc) (u0:=u0) ?_ hd hk
 refine Ak.toX hc (SubA.left _ _) A hE.right hE ?_
 rintro v D ⟨rfl,E',h1,h2,h3⟩ dD
 exact⟨D++A,SubA.refl _,rfl,E',h1,dD.subl h2,SubA.both (SubA.trans h2 (SubA.left _ _)) dD.right⟩
def WrC(f:FuncId)(args:List Value)(A:AH)(b:Nat)(w:List UInt8):Prop:= ∀(E:AH) (acc:List UInt8),FX E b acc→Dis E A→acc.length+w.length≤1000000000→Ak Tryz.prog f (Value.pointer (some ⟨b,0,none⟩)::args).toArray (E++A) fun u D=>u=.tuple #[]∧ ∃E',FX E' b (acc++w)∧Dis E' A∧SubA (E'++A) D
theorem wrS_h(A E:AH)(b:Nat)(acc:List UInt8)(r:Xr)(t:Xs)(k:Int)(hop:r.op=opO t)(hb:WrC 117 [EG r] A b (tX t))(hE:FX E b acc)(dE:Dis E A)(hl:acc.length+(GG k t).length≤1000000000):Ak Tryz.prog 94 #[.pointer (some ⟨b,0,none⟩),.agg #[.int .i64 r.op,.string r.nm,.string r.tx,.int .i64 r.n,.slice r.p r.len r.cap],.int .i64 k] (E++A) (fun u_ A_=>u_=.tuple #[]∧ ∃E',FX E' b (acc++GG k t)∧Dis E' A∧SubA (E'++A) A_):=by
 refine AQ ⟨Tryz.prog,94,Tryz.f94,21,[0,1,2,4],⟨[117,118],none⟩,[],_⟩ rfl (args:=[_,_,_]) Tryz.func94 rfl (by kernel_rfl) Tryz.ntmps94 (by simp) (by kernel_rfl) ?_
 intro ν fr;have nuE:=fr.nu
 have f0:=fr.2 0
 by_cases hk:k≤Ev r.op
 ·have hT:GG k t=tX t:=by unfold GG WS;rw[if_pos (by rw[←hop];exact hk)]
  rw[hT]at hl⊢
  simp (maxDischargeDepth:=16) only[Af,↓Ae,simprocAttr,forall_const,nuE,fr.2,DQ,↓AK,↓AJ,AU,AR,Ab,Ac,Aq,CR,CU,eq_true hk]
  have dst_:True:=(by simp[nuE]);generalize ν 0=n1 at dst_  f0⊢
  clear nuE fr
  refine Xi (Y:=[(n1,_)]) (hb E acc hE dE hl) (Dis.one f0).symm ?_
  intro E' hE' dE' dY
  simp only[List.cons_append,List.nil_append]
  intro ν fr;have nuE:=And.intro (fr.mem (b:=n1) (by simp)) (fr.nu)
  simp (maxDischargeDepth:=16) only[Af,↓Ae,simprocAttr,forall_const,nuE,fr.2,DQ,↓AK,↓AJ,AU,AR,Ab,Ac,Aq,CR,CU]
  exact⟨rfl,E',hE',dE',SubA.fresh (dY n1 (by simp[Vm.AA])) (SubA.refl _)⟩
 ·have hT:GG k t=[40]++tX t++[41]:=by unfold GG WS;rw[if_neg (by rw[←hop];exact hk)];simp
  rw[hT]at hl⊢
  simp only[List.length_append,List.length_cons,List.length_nil]at hl
  simp (maxDischargeDepth:=16) only[Af,↓Ae,simprocAttr,forall_const,nuE,fr.2,DQ,↓AK,↓AJ,AU,AR,Ab,Ac,Aq,CR,CU,eq_false hk]
  have dst_:True:=(by simp[nuE]);generalize ν 0=n1 at dst_  f0⊢
  clear nuE fr
  refine W7 (Y:=[(n1,_)]) (M3 E b acc 40 hE (by omega)) dE (Dis.one f0).symm ?_
  intro E1 hE1 dE1 dY1
  simp only[List.cons_append,List.nil_append]
  intro ν fr;have nuE:=And.intro (fr.mem (b:=n1) (by simp)) (fr.nu)
  simp (maxDischargeDepth:=16) only[Af,↓Ae,simprocAttr,forall_const,nuE,fr.2,DQ,↓AK,↓AJ,AU,AR,Ab,Ac,Aq,CR,CU]
  clear nuE fr
  refine Xi (Y:=[(n1,_)]) (hb E1 _ hE1 dE1 (by simp;omega)) dY1 ?_
  intro E2 hE2 dE2 dY2
  simp only[List.cons_append,List.nil_append]
  intro ν fr;have nuE:=And.intro (fr.mem (b:=n1) (by simp)) (fr.nu)
  simp (maxDischargeDepth:=16) only[Af,↓Ae,simprocAttr,forall_const,nuE,fr.2,DQ,↓AK,↓AJ,AU,AR,Ab,Ac,Aq,CR,CU]
  clear nuE fr
  refine W7 (Y:=[(n1,_)]) (M3 E2 b _ 41 hE2 (by simp;omega)) dE2 dY2 ?_
  intro E3 hE3 dE3 dY3
  simp only[List.cons_append,List.nil_append]
  intro ν fr;have nuE:=And.intro (fr.mem (b:=n1) (by simp)) (fr.nu)
  simp (maxDischargeDepth:=16) only[Af,↓Ae,simprocAttr,forall_const,nuE,fr.2,DQ,↓AK,↓AJ,AU,AR,Ab,Ac,Aq,CR,CU]
  exact⟨rfl,E3,by simpa using hE3,dE3,SubA.fresh (dY3 n1 (by simp[Vm.AA])) (SubA.refl _)⟩
end Go.Proofs.YtfphceknmgadgaaGreatDoor
namespace Go.Proofs.YtfphceknmgadgaaGreatDoor
open Go.Vm
set_option maxHeartbeats 4000000
set_option maxRecDepth 20000
theorem El{args:List Xs}{i:Nat}{x:Xs}(k:Int)(h:args[i]? =some x):Wd (tL args) i k=GG k x:=by
 unfold Wd GG
 rw[Ea,List.getD_eq_getElem?_getD,List.getElem?_map,h]
 rfl
def ArC(A:AH)(b:Nat)(args:List Xs)(rs:List Xr):Prop:= ∀(i:Nat) (x:Xs) (s:Xr) (k:Int),args[i]? =some x→rs[i]? =some s→WrC 94 [EG s,.int .i64 k] A b (GG k x)
theorem nm_ne{s:ByteArray}(h:Hi s=true):s.data.toList≠[]:=by
 intro e
 unfold Hi DS at h
 simp only[Bool.and_eq_true,decide_eq_true_eq]at h
 have:s.toList=[]:=by rw[ByteArray.toList_eq];exact e
 have h2:=Ah s
 rw[this]at h2
 simp at h2
 omega
theorem R3(n:Int):Lib.itoa n≠[]:=by
 unfold Lib.itoa
 split
 ·simp
 ·exact J0 _
theorem Kn{n:Int}(h1: -9223372036854775808≤n)(h2:n≤9223372036854775807):(Lib.itoa n).length≤20:=by
 unfold Lib.itoa
 split
 ·have:=HS 19 n.natAbs (by omega) (by omega)
  simp;omega
 ·have:=HS 19 n.toNat (by omega) (by omega)
  omega
theorem aC(op:Int):(Hh op).length≤3:=by
 unfold Hh
 repeat' split
 all_goals simp
theorem lz(l:Array UInt8):ByteArray.size ⟨l⟩=l.size:=rfl
theorem Kz{α:Type}{l:List α}(h:l.length=2): ∃x y,l=[x,y]:=by
 match l,h with
 | [x,y],_=>exact⟨x,y,rfl⟩
theorem ZE{op:Int}{nm tx:ByteArray}{n:Int}{k:Nat}(h:Cu op nm tx n k=true): -9223372036854775808≤n∧n≤9223372036854775807:=by
 unfold Cu at h
 split at h
 ·simp only[Bool.and_eq_true,decide_eq_true_eq]at h;omega
 ·split at h
  ·simp only[Bool.and_eq_true,decide_eq_true_eq]at h;omega
  ·split at h
   ·simp only[Bool.and_eq_true,decide_eq_true_eq]at h;omega
   ·split at h
    ·simp only[Bool.and_eq_true,decide_eq_true_eq]at h;omega
    ·simp only[Bool.and_eq_true,decide_eq_true_eq]at h;omega
theorem wbS_h(A E:AH)(hT:FY A)(b:Nat)(acc:List UInt8)(op n:Int)(nm tx:ByteArray)(args:List Xs)(p:Option Addr)(cap:Nat)(rs:List Xr)(hl:args.length≤140737488355328)(hrs:rs.length=args.length)(hS:E8 C8 5 A p rs)(hF:Cu op nm tx n args.length=true)(hA:ArC A b args rs)(hI:op=15→WrC 139 [.agg #[.int .i64 op,.string nm,.string tx,.int .i64 n,.slice p args.length cap]] A b (CP 15 nm tx n (tL args)))(hE:FX E b acc)(dE:Dis E A)(hsz:acc.length+(CP op nm tx n (tL args)).length≤1000000000):Ak Tryz.prog 117 #[.pointer (some ⟨b,0,none⟩),.agg #[.int .i64 op,.string nm,.string tx,.int .i64 n,.slice p args.length cap]] (E++A) (fun u_ A_=>u_=.tuple #[]∧ ∃E',FX E' b (acc++CP op nm tx n (tL args))∧Dis E' A∧SubA (E'++A) A_):=by
 refine AQ ⟨Tryz.prog,117,Tryz.f117,108,[0,1,3,4,5,7],⟨[94,139,118,34],none⟩,[],_⟩ rfl (args:=[_,_]) Tryz.func117 rfl (by kernel_rfl) Tryz.ntmps117 (by simp) (by kernel_rfl) ?_
 intro ν fr;have nuE:=fr.nu
 have f0:=fr.2 0
 obtain⟨hn1,hn2⟩:=ZE hF
 have fmt:=fun o=>Zw A hT n hn1 hn2 ((ν 0,o)::(E++A)) (SubA.fresh f0 dE.right)
 by_cases o1:op=1
 ·subst o1
  have hB:CP 1 nm tx n (tL args)=Lib.itoa n:=rfl
  rw[hB]at hsz⊢
  simp (maxDischargeDepth:=16) only[Af,↓Ae,simprocAttr,forall_const,nuE,fr.2,DQ,↓AK,↓AJ,AU,AR,Ab,Ac,Aq,CR,CU,fmt]
  have dst_:True:=(by simp[nuE]);generalize ν 0=n1 at dst_  f0⊢
  clear nuE fr fmt
  refine W7 (Y:=[(n1,_)]) (FB E b acc (Lib.itoa n) hE (R3 n) hsz) dE (Dis.one f0).symm ?_
  intro E1 hE1 dE1 dY1
  simp only[List.cons_append,List.nil_append]
  intro ν fr;have nuE:=And.intro (fr.mem (b:=n1) (by simp)) (fr.nu)
  simp (maxDischargeDepth:=16) only[Af,↓Ae,simprocAttr,forall_const,nuE,fr.2,DQ,↓AK,↓AJ,AU,AR,Ab,Ac,Aq,CR,CU]
  exact⟨rfl,E1,hE1,dE1,SubA.fresh (dY1 n1 (by simp[Vm.AA])) (SubA.refl _)⟩
 by_cases o2:op=2
 ·subst o2
  have hB:CP 2 nm tx n (tL args)=34::(tx.data.toList++[34]):=rfl
  rw[hB]at hsz⊢
  have hsz2:=(Mv hF).2
  have s1:(ByteArray.size ⟨#[34]⟩+tx.size≤9223372036854775807):=by simp only[ByteArray.size_append,Ao,lz,List.size_toArray,List.length_cons,List.length_nil];omega
  have s2:((⟨#[34]⟩++tx:ByteArray).size+ByteArray.size ⟨#[34]⟩≤9223372036854775807):=by simp only[ByteArray.size_append,Ao,lz,List.size_toArray,List.length_cons,List.length_nil];omega
  have s3:(⟨#[34]⟩++tx++⟨#[34]⟩:ByteArray)=bs (34::(tx.data.toList++[34])):=F9 (by simp[bs])
  simp (maxDischargeDepth:=16) only[Af,↓Ae,simprocAttr,forall_const,nuE,fr.2,DQ,↓AK,↓AJ,AU,AR,Ab,Ac,Aq,CR,CU,s1,s2,s3]
  have dst_:True:=(by simp[nuE]);generalize ν 0=n1 at dst_  f0⊢
  clear nuE fr fmt
  refine W7 (Y:=[(n1,_)]) (FB E b acc _ hE (by simp) hsz) dE (Dis.one f0).symm ?_
  intro E1 hE1 dE1 dYE1
  simp only[List.cons_append,List.nil_append]
  intro ν fr;have nuE:=And.intro (fr.mem (b:=n1) (by simp)) (fr.nu)
  simp (maxDischargeDepth:=16) only[Af,↓Ae,simprocAttr,forall_const,nuE,fr.2,DQ,↓AK,↓AJ,AU,AR,Ab,Ac,Aq,CR,CU]
  exact⟨rfl,E1,by simpa using hE1,dE1,SubA.fresh (dYE1 n1 (by simp[Vm.AA])) (SubA.refl _)⟩
 by_cases o3:op=3
 ·subst o3
  have hB:CP 3 nm tx n (tL args)=nm.data.toList:=rfl
  rw[hB]at hsz⊢
  have hnm:Hi nm=true:=by
   unfold Cu at hF
   simp only[Bool.and_eq_true,Int.reduceEq,if_false,if_true]at hF
   exact hF.1.1.1
  have hne:=nm_ne hnm
  have s3:nm=bs nm.data.toList:=QS nm
  generalize nm.data.toList=ln at hsz hne s3
  subst s3
  simp (maxDischargeDepth:=16) only[Af,↓Ae,simprocAttr,forall_const,nuE,fr.2,DQ,↓AK,↓AJ,AU,AR,Ab,Ac,Aq,CR,CU]
  have dst_:True:=(by simp[nuE]);generalize ν 0=n1 at dst_  f0⊢
  clear nuE fr fmt
  refine W7 (Y:=[(n1,_)]) (FB E b acc _ hE hne hsz) dE (Dis.one f0).symm ?_
  intro E1 hE1 dE1 dYE1
  simp only[List.cons_append,List.nil_append]
  intro ν fr;have nuE:=And.intro (fr.mem (b:=n1) (by simp)) (fr.nu)
  simp (maxDischargeDepth:=16) only[Af,↓Ae,simprocAttr,forall_const,nuE,fr.2,DQ,↓AK,↓AJ,AU,AR,Ab,Ac,Aq,CR,CU]
  exact⟨rfl,E1,by simpa using hE1,dE1,SubA.fresh (dYE1 n1 (by simp[Vm.AA])) (SubA.refl _)⟩
 by_cases o16:op=16
 ·subst o16
  have hB:CP 16 nm tx n (tL args)=[99,111,117,110,116,40]++nm.data.toList++[44,32]++Lib.itoa n++[41]:=rfl
  rw[hB]at hsz⊢
  have hsz2:=(Mv hF).1
  have il:=Kn hn1 hn2
  have s1:(ByteArray.size ⟨#[99,111,117,110,116,40]⟩+nm.size≤9223372036854775807):=by simp only[ByteArray.size_append,Ao,lz,List.size_toArray,List.length_cons,List.length_nil];omega
  have s2:((⟨#[99,111,117,110,116,40]⟩++nm:ByteArray).size+ByteArray.size ⟨#[44,32]⟩≤9223372036854775807):=by simp only[ByteArray.size_append,Ao,lz,List.size_toArray,List.length_cons,List.length_nil];omega
  have s3:((⟨#[99,111,117,110,116,40]⟩++nm++⟨#[44,32]⟩:ByteArray).size+(bs (Lib.itoa n)).size≤9223372036854775807):=by simp only[ByteArray.size_append,Ao,lz,List.size_toArray,List.length_cons,List.length_nil];omega
  have s4:((⟨#[99,111,117,110,116,40]⟩++nm++⟨#[44,32]⟩++bs (Lib.itoa n):ByteArray).size+ByteArray.size ⟨#[41]⟩≤9223372036854775807):=by simp only[ByteArray.size_append,Ao,lz,List.size_toArray,List.length_cons,List.length_nil];omega
  have s5:(⟨#[99,111,117,110,116,40]⟩++nm++⟨#[44,32]⟩++bs (Lib.itoa n)++⟨#[41]⟩:ByteArray)=bs ([99,111,117,110,116,40]++nm.data.toList++[44,32]++Lib.itoa n++[41]):=F9 (by simp[bs])
  simp (maxDischargeDepth:=16) only[Af,↓Ae,simprocAttr,forall_const,nuE,fr.2,DQ,↓AK,↓AJ,AU,AR,Ab,Ac,Aq,CR,CU]
  have dst_:True:=(by simp[nuE]);generalize ν 0=n1 at dst_  f0⊢
  clear nuE fr
  have fA:Vm.AA A n1=none:=dE.right.none f0
  have sAs: ∀E':AH,Dis E' A→SubA ((n1,.cells #[.int .i64 16,.string nm,.string tx,.int .i64 n,.slice p args.length cap] 36)::A) ((n1,.cells #[.int .i64 16,.string nm,.string tx,.int .i64 n,.slice p args.length cap] 36)::(E'++A)):=fun E' d=>SubA.app (B:=[_]) d.right
  refine C3.plan [(0,0),(1,0),(2,0),(3,0),(4,0),(5,0),(6,0),(7,0),(8,0),(9,0),(10,0)] _ (sAs E dE) (by kernel_rfl) (by kernel_rfl) (by kernel_rfl) (by kernel_rfl) (by kernel_rfl) (by kernel_rfl) ?_
  intro ν fr;have nuE:=And.intro (fr.mem (b:=n1) (by simp)) (fr.nu)
  have fmt2:=fun o=>Zw A hT n hn1 hn2 ((n1,o)::A) (SubA.fresh fA (SubA.refl _))
  simp (maxDischargeDepth:=16) only[Af,↓Ae,simprocAttr,forall_const,nuE,fr.2,DQ,↓AK,↓AJ,AU,AR,Ab,Ac,Aq,CR,CU,fmt2,s1,s2,s3,s4,s5,eq_true (sAs E dE)]
  clear nuE fr fmt fmt2
  refine W7 (Y:=[(n1,_)]) (FB E b acc _ hE (by simp) hsz) dE (Dis.one f0).symm ?_
  intro E1 hE1 dE1 dYE1
  simp only[List.cons_append,List.nil_append]
  intro ν fr;have nuE:=And.intro (fr.mem (b:=n1) (by simp)) (fr.nu)
  simp (maxDischargeDepth:=16) only[Af,↓Ae,simprocAttr,forall_const,nuE,fr.2,DQ,↓AK,↓AJ,AU,AR,Ab,Ac,Aq,CR,CU,eq_true (sAs E1 dE1)]
  exact⟨rfl,E1,by simpa using hE1,dE1,SubA.fresh (dYE1 n1 (by simp[Vm.AA])) (SubA.refl _)⟩
 by_cases o17:op=17
 ·subst o17
  have hB:CP 17 nm tx n (tL args)=[115,117,109,40]++nm.data.toList++[44,32]++Lib.itoa n++[41]:=rfl
  rw[hB]at hsz⊢
  have hsz2:=(Mv hF).1
  have il:=Kn hn1 hn2
  have s1:(ByteArray.size ⟨#[115,117,109,40]⟩+nm.size≤9223372036854775807):=by simp only[ByteArray.size_append,Ao,lz,List.size_toArray,List.length_cons,List.length_nil];omega
  have s2:((⟨#[115,117,109,40]⟩++nm:ByteArray).size+ByteArray.size ⟨#[44,32]⟩≤9223372036854775807):=by simp only[ByteArray.size_append,Ao,lz,List.size_toArray,List.length_cons,List.length_nil];omega
  have s3:((⟨#[115,117,109,40]⟩++nm++⟨#[44,32]⟩:ByteArray).size+(bs (Lib.itoa n)).size≤9223372036854775807):=by simp only[ByteArray.size_append,Ao,lz,List.size_toArray,List.length_cons,List.length_nil];omega
  have s4:((⟨#[115,117,109,40]⟩++nm++⟨#[44,32]⟩++bs (Lib.itoa n):ByteArray).size+ByteArray.size ⟨#[41]⟩≤9223372036854775807):=by simp only[ByteArray.size_append,Ao,lz,List.size_toArray,List.length_cons,List.length_nil];omega
  have s5:(⟨#[115,117,109,40]⟩++nm++⟨#[44,32]⟩++bs (Lib.itoa n)++⟨#[41]⟩:ByteArray)=bs ([115,117,109,40]++nm.data.toList++[44,32]++Lib.itoa n++[41]):=F9 (by simp[bs])
  simp (maxDischargeDepth:=16) only[Af,↓Ae,simprocAttr,forall_const,nuE,fr.2,DQ,↓AK,↓AJ,AU,AR,Ab,Ac,Aq,CR,CU]
  have dst_:True:=(by simp[nuE]);generalize ν 0=n1 at dst_  f0⊢
  clear nuE fr
  have fA:Vm.AA A n1=none:=dE.right.none f0
  have sAs: ∀E':AH,Dis E' A→SubA ((n1,.cells #[.int .i64 17,.string nm,.string tx,.int .i64 n,.slice p args.length cap] 36)::A) ((n1,.cells #[.int .i64 17,.string nm,.string tx,.int .i64 n,.slice p args.length cap] 36)::(E'++A)):=fun E' d=>SubA.app (B:=[_]) d.right
  refine C3.plan [(0,0),(1,0),(2,0),(3,0),(4,0),(5,0),(6,0),(7,0),(8,0),(9,0),(10,0)] _ (sAs E dE) (by kernel_rfl) (by kernel_rfl) (by kernel_rfl) (by kernel_rfl) (by kernel_rfl) (by kernel_rfl) ?_
  intro ν fr;have nuE:=And.intro (fr.mem (b:=n1) (by simp)) (fr.nu)
  have fmt2:=fun o=>Zw A hT n hn1 hn2 ((n1,o)::A) (SubA.fresh fA (SubA.refl _))
  simp (maxDischargeDepth:=16) only[Af,↓Ae,simprocAttr,forall_const,nuE,fr.2,DQ,↓AK,↓AJ,AU,AR,Ab,Ac,Aq,CR,CU,fmt2,s1,s2,s3,s4,s5,eq_true (sAs E dE)]
  clear nuE fr fmt fmt2
  refine W7 (Y:=[(n1,_)]) (FB E b acc _ hE (by simp) hsz) dE (Dis.one f0).symm ?_
  intro E1 hE1 dE1 dYE1
  simp only[List.cons_append,List.nil_append]
  intro ν fr;have nuE:=And.intro (fr.mem (b:=n1) (by simp)) (fr.nu)
  simp (maxDischargeDepth:=16) only[Af,↓Ae,simprocAttr,forall_const,nuE,fr.2,DQ,↓AK,↓AJ,AU,AR,Ab,Ac,Aq,CR,CU,eq_true (sAs E1 dE1)]
  exact⟨rfl,E1,by simpa using hE1,dE1,SubA.fresh (dYE1 n1 (by simp[Vm.AA])) (SubA.refl _)⟩
 by_cases o4:op=4
 ·subst o4
  have h1:args.length=1:=by
   unfold Cu at hF
   simp at hF
   omega
  obtain⟨x,rfl⟩:=List.length_eq_one_iff.1 h1
  obtain⟨s,rfl⟩:=List.length_eq_one_iff.1 hrs
  have hB:CP 4 nm tx n (tL [x])=[110,111,116,32]++GG 6 x:=by rw[←El (args:=[x]) (i:=0) 6 rfl];rfl
  rw[hB]at hsz⊢
  simp only[List.length_append,List.length_cons,List.length_nil]at hsz
  simp (maxDischargeDepth:=16) only[Af,↓Ae,simprocAttr,forall_const,nuE,fr.2,DQ,↓AK,↓AJ,AU,AR,Ab,Ac,Aq,CR,CU]
  have dst_:True:=(by simp[nuE]);generalize ν 0=n1 at dst_  f0⊢
  clear nuE fr fmt
  refine W7 (Y:=[(n1,_)]) (FB E b acc [110,111,116,32] hE (by simp) (by simp;omega)) dE (Dis.one f0).symm ?_
  intro E1 hE1 dE1 dYE1
  simp only[List.cons_append,List.nil_append]
  intro ν fr;have nuE:=And.intro (fr.mem (b:=n1) (by simp)) (fr.nu)
  obtain⟨bk,off,cs,ty,fr0,hp0,hbk,hcr,hcc⟩:=hS.at (i:=0) rfl
  subst hp0
  have hbk1:=dE1.right _ _ hbk
  obtain⟨q1,q2⟩:=BE (dYE1 n1 (by simp[Vm.AA])) hbk1
  simp only[C8,Nat.zero_mul,Nat.add_zero]at hcr
  simp (maxDischargeDepth:=16) only[Af,↓Ae,simprocAttr,forall_const,nuE,fr.2,DQ,↓AK,↓AJ,AU,AR,Ab,Ac,Aq,CR,CU,hbk1,hcr,q1,q2]
  clear nuE fr
  refine Xi (Y:=[(n1,_)]) (hA 0 x s 6 rfl rfl E1 _ hE1 dE1 (by simp;omega)) dYE1 ?_
  intro E2 hE2 dE2 dYE2
  simp only[List.cons_append,List.nil_append]
  intro ν fr;have nuE:=And.intro (fr.mem (b:=n1) (by simp)) (fr.nu)
  simp (maxDischargeDepth:=16) only[Af,↓Ae,simprocAttr,forall_const,nuE,fr.2,DQ,↓AK,↓AJ,AU,AR,Ab,Ac,Aq,CR,CU]
  exact⟨rfl,E2,by simpa using hE2,dE2,SubA.fresh (dYE2 n1 (by simp[Vm.AA])) (SubA.refl _)⟩
 by_cases o5:op=5
 ·subst o5
  have h1:args.length=1:=by
   unfold Cu at hF
   simp at hF
   omega
  obtain⟨x,rfl⟩:=List.length_eq_one_iff.1 h1
  obtain⟨s,rfl⟩:=List.length_eq_one_iff.1 hrs
  have hB:CP 5 nm tx n (tL [x])=[45]++GG 6 x:=by rw[←El (args:=[x]) (i:=0) 6 rfl];rfl
  rw[hB]at hsz⊢
  simp only[List.length_append,List.length_cons,List.length_nil]at hsz
  simp (maxDischargeDepth:=16) only[Af,↓Ae,simprocAttr,forall_const,nuE,fr.2,DQ,↓AK,↓AJ,AU,AR,Ab,Ac,Aq,CR,CU]
  have dst_:True:=(by simp[nuE]);generalize ν 0=n1 at dst_  f0⊢
  clear nuE fr fmt
  refine W7 (Y:=[(n1,_)]) (M3 E b acc 45 hE (by omega)) dE (Dis.one f0).symm ?_
  intro E1 hE1 dE1 dYE1
  simp only[List.cons_append,List.nil_append]
  intro ν fr;have nuE:=And.intro (fr.mem (b:=n1) (by simp)) (fr.nu)
  obtain⟨bk,off,cs,ty,fr0,hp0,hbk,hcr,hcc⟩:=hS.at (i:=0) rfl
  subst hp0
  have hbk1:=dE1.right _ _ hbk
  obtain⟨q1,q2⟩:=BE (dYE1 n1 (by simp[Vm.AA])) hbk1
  simp only[C8,Nat.zero_mul,Nat.add_zero]at hcr
  simp (maxDischargeDepth:=16) only[Af,↓Ae,simprocAttr,forall_const,nuE,fr.2,DQ,↓AK,↓AJ,AU,AR,Ab,Ac,Aq,CR,CU,hbk1,hcr,q1,q2]
  clear nuE fr
  refine Xi (Y:=[(n1,_)]) (hA 0 x s 6 rfl rfl E1 _ hE1 dE1 (by simp;omega)) dYE1 ?_
  intro E2 hE2 dE2 dYE2
  simp only[List.cons_append,List.nil_append]
  intro ν fr;have nuE:=And.intro (fr.mem (b:=n1) (by simp)) (fr.nu)
  simp (maxDischargeDepth:=16) only[Af,↓Ae,simprocAttr,forall_const,nuE,fr.2,DQ,↓AK,↓AJ,AU,AR,Ab,Ac,Aq,CR,CU]
  exact⟨rfl,E2,by simpa using hE2,dE2,SubA.fresh (dYE2 n1 (by simp[Vm.AA])) (SubA.refl _)⟩
 by_cases o15:op=15
 ·subst o15
  simp (maxDischargeDepth:=16) only[Af,↓Ae,simprocAttr,forall_const,nuE,fr.2,DQ,↓AK,↓AJ,AU,AR,Ab,Ac,Aq,CR,CU]
  have dst_:True:=(by simp[nuE]);generalize ν 0=n1 at dst_  f0⊢
  clear nuE fr fmt
  refine Xi (Y:=[(n1,_)]) (hI rfl E acc hE dE hsz) (Dis.one f0).symm ?_
  intro E1 hE1 dE1 dYE1
  simp only[List.cons_append,List.nil_append]
  intro ν fr;have nuE:=And.intro (fr.mem (b:=n1) (by simp)) (fr.nu)
  simp (maxDischargeDepth:=16) only[Af,↓Ae,simprocAttr,forall_const,nuE,fr.2,DQ,↓AK,↓AJ,AU,AR,Ab,Ac,Aq,CR,CU]
  exact⟨rfl,E1,by simpa using hE1,dE1,SubA.fresh (dYE1 n1 (by simp[Vm.AA])) (SubA.refl _)⟩
 have hm:6≤op∧op≤14∧args.length=2:=by
  unfold Cu at hF
  rw[if_neg o1,if_neg o2,if_neg o3,if_neg (by omega),if_neg (by omega)]at hF
  simp only[Bool.and_eq_true]at hF
  have:=hF.2
  split at this
  ·rename_i h;simp at this;omega
  ·simp at this;omega
 obtain⟨hm1,hm2,h2⟩:=hm
 obtain⟨x,y,rfl⟩:=Kz h2
 obtain⟨s,s',rfl⟩:=Kz (hrs.trans h2)
 have hB:CP op nm tx n (tL [x,y])=GG (L4 op) x++([32]++Hh op++[32])++GG (Ev op+1) y:=by
  rw[←El (args:=[x,y]) (i:=0) _ rfl,←El (args:=[x,y]) (i:=1) _ rfl]
  unfold CP
  rw[if_neg o1,if_neg o2,if_neg o3,if_neg o16,if_neg o17,if_neg o4,if_neg o5,if_neg o15]
 rw[hB]at hsz⊢
 simp only[List.length_append,List.length_cons,List.length_nil]at hsz
 have lv:0≤Ev op∧Ev op≤6:=by unfold Ev;repeat' split;all_goals omega
 have wl:IntKind.i64.wrap (Ev op+1)=Ev op+1:=Az (by omega) (by omega)
 have sl:=aC op
 have s1:(ByteArray.size ⟨#[32]⟩+(bs (Hh op)).size≤9223372036854775807):=by simp only[ByteArray.size_append,Ao,lz,List.size_toArray,List.length_cons,List.length_nil];omega
 have s2:((⟨#[32]⟩++bs (Hh op):ByteArray).size+ByteArray.size ⟨#[32]⟩≤9223372036854775807):=by simp only[ByteArray.size_append,Ao,lz,List.size_toArray,List.length_cons,List.length_nil];omega
 have s3:(⟨#[32]⟩++bs (Hh op)++⟨#[32]⟩:ByteArray)=bs ([32]++Hh op++[32]):=F9 (by simp[bs])
 obtain⟨bk,off,cs,ty,fr0,hp0,hbk,hcr,hcc⟩:=hS.at (i:=0) rfl
 obtain⟨bk',off',cs',ty',fr0',hp0',hbk',hcr',hcc'⟩:=hS.at (i:=1) rfl
 subst hp0
 cases hp0'
 have hbkE:=dE.right _ _ hbk
 obtain⟨q1,q2⟩:=BE f0 hbkE
 rw[hbk]at hbk'
 cases hbk'
 simp only[C8,Nat.zero_mul,Nat.add_zero,Nat.one_mul]at hcr hcr'
 by_cases hl3:Ev op=3
 ·have hle:L4 op=4:=by unfold L4;rw[if_pos hl3]
  have h4:Ev op+1=4:=by omega
  have w4:IntKind.i64.wrap 4=4:=rfl
  rw[hle,h4]at hsz⊢
  simp (maxDischargeDepth:=16) only[Af,↓Ae,simprocAttr,forall_const,nuE,fr.2,DQ,↓AK,↓AJ,AU,AR,Ab,Ac,Aq,CR,CU,eq_false o1,eq_false o2,eq_false o3,eq_false o16,eq_false o17,eq_false o4,eq_false o5,eq_false o15,hl3,hbkE,hcr,q1,q2]
  have dst_:True:=(by simp[nuE]);generalize ν 0=n1 at dst_  f0⊢
  clear nuE fr fmt
  refine Xi (Y:=[(n1,_)]) (hA 0 x s (4) rfl rfl E acc hE dE (by omega)) (Dis.one f0).symm ?_
  intro E1 hE1 dE1 dYE1
  simp only[List.cons_append,List.nil_append]
  intro ν fr;have nuE:=And.intro (fr.mem (b:=n1) (by simp)) (fr.nu)
  simp (maxDischargeDepth:=16) only[Af,↓Ae,simprocAttr,forall_const,nuE,fr.2,DQ,↓AK,↓AJ,AU,AR,Ab,Ac,Aq,CR,CU,s1,s2,s3]
  clear nuE fr
  refine W7 (Y:=[(n1,_)]) (FB E1 b _ _ hE1 (by simp) (by simp;omega)) dE1 dYE1 ?_
  intro E2 hE2 dE2 dYE2
  simp only[List.cons_append,List.nil_append]
  intro ν fr;have nuE:=And.intro (fr.mem (b:=n1) (by simp)) (fr.nu)
  have hbk2:=dE2.right _ _ hbk
  obtain⟨q1,q2⟩:=BE (dYE2 n1 (by simp[Vm.AA])) hbk2
  simp (maxDischargeDepth:=16) only[Af,↓Ae,simprocAttr,forall_const,nuE,fr.2,DQ,↓AK,↓AJ,AU,AR,Ab,Ac,Aq,CR,CU,hbk2,hcr',q1,q2,w4]
  clear nuE fr
  refine Xi (Y:=[(n1,_)]) (hA 1 y s' 4 rfl rfl E2 _ hE2 dE2 (by simp;omega)) dYE2 ?_
  intro E3 hE3 dE3 dYE3
  simp only[List.cons_append,List.nil_append]
  intro ν fr;have nuE:=And.intro (fr.mem (b:=n1) (by simp)) (fr.nu)
  simp (maxDischargeDepth:=16) only[Af,↓Ae,simprocAttr,forall_const,nuE,fr.2,DQ,↓AK,↓AJ,AU,AR,Ab,Ac,Aq,CR,CU]
  exact⟨rfl,E3,by simpa using hE3,dE3,SubA.fresh (dYE3 n1 (by simp[Vm.AA])) (SubA.refl _)⟩
 ·have hle:L4 op=Ev op:=by unfold L4;rw[if_neg hl3]
  rw[hle]at hsz⊢
  simp (maxDischargeDepth:=16) only[Af,↓Ae,simprocAttr,forall_const,nuE,fr.2,DQ,↓AK,↓AJ,AU,AR,Ab,Ac,Aq,CR,CU,eq_false o1,eq_false o2,eq_false o3,eq_false o16,eq_false o17,eq_false o4,eq_false o5,eq_false o15,eq_false hl3,hbkE,hcr,q1,q2]
  have dst_:True:=(by simp[nuE]);generalize ν 0=n1 at dst_  f0⊢
  clear nuE fr fmt
  refine Xi (Y:=[(n1,_)]) (hA 0 x s (Ev op) rfl rfl E acc hE dE (by omega)) (Dis.one f0).symm ?_
  intro E1 hE1 dE1 dYE1
  simp only[List.cons_append,List.nil_append]
  intro ν fr;have nuE:=And.intro (fr.mem (b:=n1) (by simp)) (fr.nu)
  simp (maxDischargeDepth:=16) only[Af,↓Ae,simprocAttr,forall_const,nuE,fr.2,DQ,↓AK,↓AJ,AU,AR,Ab,Ac,Aq,CR,CU,s1,s2,s3]
  clear nuE fr
  refine W7 (Y:=[(n1,_)]) (FB E1 b _ _ hE1 (by simp) (by simp;omega)) dE1 dYE1 ?_
  intro E2 hE2 dE2 dYE2
  simp only[List.cons_append,List.nil_append]
  intro ν fr;have nuE:=And.intro (fr.mem (b:=n1) (by simp)) (fr.nu)
  have hbk2:=dE2.right _ _ hbk
  obtain⟨q1,q2⟩:=BE (dYE2 n1 (by simp[Vm.AA])) hbk2
  simp (maxDischargeDepth:=16) only[Af,↓Ae,simprocAttr,forall_const,nuE,fr.2,DQ,↓AK,↓AJ,AU,AR,Ab,Ac,Aq,CR,CU,hbk2,hcr',q1,q2,wl]
  clear nuE fr
  refine Xi (Y:=[(n1,_)]) (hA 1 y s' (Ev op+1) rfl rfl E2 _ hE2 dE2 (by simp;omega)) dYE2 ?_
  intro E3 hE3 dE3 dYE3
  simp only[List.cons_append,List.nil_append]
  intro ν fr;have nuE:=And.intro (fr.mem (b:=n1) (by simp)) (fr.nu)
  simp (maxDischargeDepth:=16) only[Af,↓Ae,simprocAttr,forall_const,nuE,fr.2,DQ,↓AK,↓AJ,AU,AR,Ab,Ac,Aq,CR,CU]
  exact⟨rfl,E3,by simpa using hE3,dE3,SubA.fresh (dYE3 n1 (by simp[Vm.AA])) (SubA.refl _)⟩
end Go.Proofs.YtfphceknmgadgaaGreatDoor
namespace Go.Proofs.YtfphceknmgadgaaGreatDoor
open Go.Vm
set_option maxHeartbeats 4000000
set_option maxRecDepth 20000
theorem jH(l:List (Int×List UInt8))(p:Int×List UInt8):Mn (l++[p])=if l.length=0 then WS 4 p else Mn l++[44,32]++WS 4 p:=by
 cases l with
 |nil=>simp[Mn,MS]
 |cons q l=>simp[Mn,MS]
theorem wiS_h(A E:AH)(b:Nat)(acc:List UInt8)(op n:Int)(nm tx:ByteArray)(args:List Xs)(p:Option Addr)(cap:Nat)(rs:List Xr)(hl:args.length≤140737488355328)(hcap:args.length≤cap)(hrs:rs.length=args.length)(hS:E8 C8 5 A p rs)(h2:2≤args.length)(hA:ArC A b args rs)(hE:FX E b acc)(dE:Dis E A)(hsz:acc.length+(CP 15 nm tx n (tL args)).length≤1000000000):Ak Tryz.prog 139 #[.pointer (some ⟨b,0,none⟩),.agg #[.int .i64 op,.string nm,.string tx,.int .i64 n,.slice p args.length cap]] (E++A) (fun u_ A_=>u_=.tuple #[]∧ ∃E',FX E' b (acc++CP 15 nm tx n (tL args))∧Dis E' A∧SubA (E'++A) A_):=by
 refine AQ ⟨Tryz.prog,139,Tryz.f139,33,[0,1,3,4,5,16,17,18],⟨[94,118,34],none⟩,[],_⟩ rfl (args:=[_,_]) Tryz.func139 rfl (by kernel_rfl) Tryz.ntmps139 (by simp) (by kernel_rfl) ?_
 intro ν fr;have nuE:=fr.nu
 have f0:=fr.2 0
 have lt0:(0<(args.length:Int))=True:=eq_true (by omega)
 obtain⟨x0,hx0⟩: ∃x0,args[0]? =some x0:=⟨_,List.getElem?_eq_getElem (by omega)⟩
 obtain⟨s0,hs0⟩: ∃s0,rs[0]? =some s0:=⟨_,List.getElem?_eq_getElem (by omega)⟩
 obtain⟨bk,off,cs,ty,fr0,hp0,hbk,hcr,hcc⟩:=hS.at hs0
 subst hp0
 have hall: ∀(i:Nat) (s:Xr),rs[i]? =some s→EZ (some (.cells cs ty fr0)) (off+i*5) 5=some (C8 s).toArray:=by
  intro i s hi
  obtain⟨bk',off',cs',ty',fr0',hp0',hbk',hcr',hcc'⟩:=hS.at hi
  cases hp0'
  rw[hbk]at hbk'
  cases hbk'
  exact hcr'
 have hB:CP 15 nm tx n (tL args)=GG 4 x0++[32,105,110,32,40]++Mn (tL (args.drop 1))++[41]:=by
  have e1:tL (args.drop 1)=(tL args).drop 1:=by rw[Ea,Ea,List.map_drop]
  rw[e1,←El (args:=args) (i:=0) 4 hx0]
  rfl
 rw[hB]at hsz⊢
 simp only[List.length_append,List.length_cons,List.length_nil]at hsz
 have hbkE:=dE.right _ _ hbk
 obtain⟨q1,q2⟩:=BE f0 hbkE
 simp only[C8,Nat.zero_mul,Nat.add_zero]at hcr
 simp (maxDischargeDepth:=16) only[Af,↓Ae,simprocAttr,forall_const,nuE,fr.2,DQ,↓AK,↓AJ,AU,AR,Ab,Ac,Aq,CR,CU,lt0,hbkE,hcr,q1,q2]
 have dst_:True:=(by simp[nuE]);generalize ν 0=n1 at dst_  f0 q1 q2⊢
 clear nuE fr
 refine Xi (Y:=[(n1,_)]) (hA 0 x0 s0 4 hx0 hs0 E acc hE dE (by omega)) (Dis.one f0).symm ?_
 intro E1 hE1 dE1 dYE1
 simp only[List.cons_append,List.nil_append]
 intro ν fr;have nuE:=And.intro (fr.mem (b:=n1) (by simp)) (fr.nu)
 simp (maxDischargeDepth:=16) only[Af,↓Ae,simprocAttr,forall_const,nuE,fr.2,DQ,↓AK,↓AJ,AU,AR,Ab,Ac,Aq,CR,CU]
 clear nuE fr
 refine W7 (Y:=[(n1,_)]) (FB E1 b _ [32,105,110,32,40] hE1 (by simp) (by simp;omega)) dE1 dYE1 ?_
 intro E2 hE2 dE2 dYE2
 simp only[List.cons_append,List.nil_append]
 intro ν fr;have nuE:=And.intro (fr.mem (b:=n1) (by simp)) (fr.nu)
 have c1:(1≤(args.length:Int))=True:=eq_true (by omega)
 have c2:((args.length:Int)≤(cap:Int))=True:=eq_true (by omega)
 have c3:(cap=1)=False:=eq_false (by omega)
 simp (maxDischargeDepth:=16) only[Af,↓Ae,simprocAttr,forall_const,nuE,fr.2,DQ,↓AK,↓AJ,AU,AR,Ab,Ac,Aq,CR,CU,c1,c2,c3]
 clear nuE fr c1 c2 c3 hx0 hs0 hcr hbkE hE dE
 generalize hrest:args.drop 1=rest at hsz⊢
 have hrl:rest.length=args.length - 1:=by rw[←hrest];simp
 have hr: ∀(i:Nat) (x:Xs),rest[i]? =some x→args[i+1]? =some x:=fun i x h=>by rw[←hrest,List.getElem?_drop]at h;rw[←h];congr 1;omega
 rw[←hrl]
 obtain⟨e,l,E',he,hd,hle,hE',dE',dY'⟩: ∃(e:Nat) (l:List Xs) (E':AH),e=0∧l=rest.drop e∧e≤rest.length∧FX E' b (acc++GG 4 x0++[32,105,110,32,40]++Mn (tL (rest.take e)))∧Dis E' A∧Dis (E'++A) [(n1,Obj.cells #[.int .i64 op,.string nm,.string tx,.int .i64 n,.slice (some ⟨bk,off,none⟩) args.length cap] 36)]∧E'=E2:=⟨0,_,E2,rfl,rfl,by omega,by simpa[tL,Mn]using hE2,dE2,dYE2,rfl⟩
 obtain⟨dY',hEE⟩:=dY'
 rw[show(18,some (Value.int .i64 0))=(18,some (Value.int .i64 (e:Int))) by rw[he];rfl]
 refine At.at (A:=(n1,Obj.cells #[.int .i64 op,.string nm,.string tx,.int .i64 n,.slice (some ⟨bk,off,none⟩) args.length cap] 36)::(E'++A)) (by rw[hEE];exact SubA.refl _) ?_
 clear he hEE hE2 dE2 dYE2 hE1 dE1 dYE1 f0
 have hlenle: ∀e,(Mn (tL (rest.take e))).length≤(Mn (tL rest)).length:=fun e=>by
  rw[Ea,Ea,List.map_take]
  generalize rest.map (fun x=>(opO x,tX x))=L
  cases L with
  |nil=>simp
  | cons q L=>
   cases e with
   |zero=>simp[Mn]
   | succ e=>
    simp only[List.take_succ_cons,Mn,List.length_append]
    have:(MS (L.take e)).length≤(MS L).length:=by
     unfold MS
     have h:=List.take_append_drop e L
     conv=>rhs;rw[←h,List.flatMap_append,List.length_append]
     omega
    omega
 induction l generalizing e E' with
 |nil=>
  obtain⟨hn1,hn2⟩:=drop_nil hd hle
  rw[hn2]at hE'
  have lt:((e:Int)<(rest.length:Int))=False:=eq_false (by omega)
  refine At.intro (by kernel_rfl) ?_
  intro ν fr;have nuE:=And.intro (fr.mem (b:=n1) (by simp)) (fr.nu)
  simp (maxDischargeDepth:=16) only[Af,↓Ae,simprocAttr,forall_const,nuE,fr.2,DQ,↓AK,↓AJ,AU,AR,Ab,Ac,Aq,CR,CU,lt]
  clear nuE fr
  refine W7 (Y:=[(n1,_)]) (M3 E' b _ 41 hE' (by simp only[List.length_append,List.length_cons,List.length_nil];omega)) dE' dY' ?_
  intro E3 hE3 dE3 dYE3
  simp only[List.cons_append,List.nil_append]
  intro ν fr;have nuE:=And.intro (fr.mem (b:=n1) (by simp)) (fr.nu)
  simp (maxDischargeDepth:=16) only[Af,↓Ae,simprocAttr,forall_const,nuE,fr.2,DQ,↓AK,↓AJ,AU,AR,Ab,Ac,Aq,CR,CU]
  exact⟨rfl,E3,by simpa using hE3,dE3,SubA.fresh (dYE3 n1 (by simp[Vm.AA])) (SubA.refl _)⟩
 | cons x l ih=>
  obtain⟨ha,hlt,hd',htk⟩:=DH hd
  have lt:((e:Int)<(rest.length:Int))=True:=eq_true (by omega)
  have li:((e:Int)<0)=False:=eq_false (by omega)
  have we:IntKind.i64.wrap ((e:Int)+1)=((e+1:Nat):Int):=by rw[Az (by omega) (by omega)];omega
  have hx1:=hr e x ha
  obtain⟨s,hs⟩: ∃s,rs[e+1]? =some s:=⟨_,List.getElem?_eq_getElem (by omega)⟩
  have hc1:=hall (e+1) s hs
  have hc2:EZ (some (.cells cs ty fr0)) (off+5+e*5) 5=some (C8 s).toArray:=by rw[show off+5+e*5=off+(e+1)*5 by omega];exact hc1
  simp only[C8]at hc2
  have hbkE:=dE'.right _ _ hbk
  have hle1:=hlenle (e+1)
  have hle0:=hlenle e
  have hpush:Mn (tL (rest.take (e+1)))=if e=0 then GG 4 x else Mn (tL (rest.take e))++[44,32]++GG 4 x:=by
   rw[htk,Ea,List.map_append,←Ea]
   rw[show [x].map (fun x=>(opO x,tX x))=[(opO x,tX x)] from rfl,jH]
   have:(tL (rest.take e)).length=e:=by rw[Ea];simp;omega
   rw[this]
   rfl
  rw[hpush]at hle1
  refine At.intro (by kernel_rfl) ?_
  intro ν fr;have nuE:=And.intro (fr.mem (b:=n1) (by simp)) (fr.nu)
  have f5:=fr.2 0
  by_cases he0:e=0
  ·have gt:(0<(e:Int))=False:=eq_false (by omega)
   rw[if_pos he0]at hle1 hpush
   have hE0:=hE'
   rw[show rest.take e=[] by rw[he0];rfl]at hE0
   simp only[tL,Mn,List.append_nil]at hE0
   simp (maxDischargeDepth:=16) only[Af,↓Ae,simprocAttr,forall_const,nuE,fr.2,DQ,↓AK,↓AJ,AU,AR,Ab,Ac,Aq,CR,CU,lt,li,hbkE,hc2,q1,q2,gt]
   have dst_:((ν 0=n1)=False)∧((n1=ν 0)=False):=(by simp[nuE]);generalize ν 0=n5 at dst_  f5⊢
   clear nuE fr
   have e51:n5≠n1:=fun h=>by rw[h]at f5;simp[Vm.AA]at f5
   have g5:Vm.AA (E'++A) n5=none:=by simpa[Vm.AA,e51.symm]using f5
   have g1:=dY' n1 (by simp[Vm.AA])
   have d51:=dst_
   refine Xi (Y:=[(n5,_),(n1,_)]) (hA (e+1) x s 4 hx1 hs E' _ hE0 dE' (by simp only[List.length_append,List.length_cons,List.length_nil];omega)) (dis2 g5 g1) ?_
   intro E3 hE3 dE3 dYE3
   simp only[List.cons_append,List.nil_append]
   intro ν fr;have nuE:=And.intro (fr.mem (b:=n5) (by simp)) (And.intro (fr.mem (b:=n1) (by simp)) (fr.nu))
   simp (maxDischargeDepth:=16) only[Af,↓Ae,simprocAttr,forall_const,nuE,fr.2,DQ,↓AK,↓AJ,AU,AR,Ab,Ac,Aq,CR,CU,we]
   have k5:=dYE3 n5 (by simp[Vm.AA])
   have k1:=dYE3 n1 (by simp[Vm.AA,d51])
   exact At.weak (ih (e+1) E3 hd' (by omega) (by rw[hpush];simpa using hE3) dE3 (Dis.one k1).symm) (by simp only[Bo,Ag,Nat.reduceEqDiff,↓reduceIte,reduceCtorEq,Nat.reduceAdd,and_self,and_true]) (SubA.fresh (AY (eq_false e51.symm) k5) (SubA.refl _))
  ·have gt:(0<(e:Int))=True:=eq_true (by omega)
   simp only[if_neg he0,List.length_append,List.length_cons,List.length_nil]at hle1
   rw[if_neg he0]at hpush
   simp (maxDischargeDepth:=16) only[Af,↓Ae,simprocAttr,forall_const,nuE,fr.2,DQ,↓AK,↓AJ,AU,AR,Ab,Ac,Aq,CR,CU,lt,li,hbkE,hc2,q1,q2,gt]
   have dst_:((ν 0=n1)=False)∧((n1=ν 0)=False):=(by simp[nuE]);generalize ν 0=n5 at dst_  f5⊢
   clear nuE fr
   have e51:n5≠n1:=fun h=>by rw[h]at f5;simp[Vm.AA]at f5
   have g5:Vm.AA (E'++A) n5=none:=by simpa[Vm.AA,e51.symm]using f5
   have g1:=dY' n1 (by simp[Vm.AA])
   have d51:=dst_
   refine W7 (Y:=[(n5,_),(n1,_)]) (FB E' b _ [44,32] hE' (by simp) (by simp only[List.length_append,List.length_cons,List.length_nil];omega)) dE' (dis2 g5 g1) ?_
   intro E4 hE4 dE4 dYE4
   simp only[List.cons_append,List.nil_append]
   intro ν fr;have nuE:=And.intro (fr.mem (b:=n5) (by simp)) (And.intro (fr.mem (b:=n1) (by simp)) (fr.nu))
   simp (maxDischargeDepth:=16) only[Af,↓Ae,simprocAttr,forall_const,nuE,fr.2,DQ,↓AK,↓AJ,AU,AR,Ab,Ac,Aq,CR,CU]
   clear nuE fr
   refine Xi (Y:=[(n5,_),(n1,_)]) (hA (e+1) x s 4 hx1 hs E4 _ hE4 dE4 (by simp only[List.length_append,List.length_cons,List.length_nil];omega)) dYE4 ?_
   intro E3 hE3 dE3 dYE3
   simp only[List.cons_append,List.nil_append]
   intro ν fr;have nuE:=And.intro (fr.mem (b:=n5) (by simp)) (And.intro (fr.mem (b:=n1) (by simp)) (fr.nu))
   simp (maxDischargeDepth:=16) only[Af,↓Ae,simprocAttr,forall_const,nuE,fr.2,DQ,↓AK,↓AJ,AU,AR,Ab,Ac,Aq,CR,CU,we]
   have k5:=dYE3 n5 (by simp[Vm.AA])
   have k1:=dYE3 n1 (by simp[Vm.AA,d51])
   exact At.weak (ih (e+1) E3 hd' (by omega) (by rw[hpush];simpa using hE3) dE3 (Dis.one k1).symm) (by simp only[Bo,Ag,Nat.reduceEqDiff,↓reduceIte,reduceCtorEq,Nat.reduceAdd,and_self,and_true]) (SubA.fresh (AY (eq_false e51.symm) k5) (SubA.refl _))
end Go.Proofs.YtfphceknmgadgaaGreatDoor
namespace Go.Proofs.YtfphceknmgadgaaGreatDoor
open Go.Vm
set_option maxHeartbeats 4000000
set_option maxRecDepth 20000
theorem SY{op n:Int}{nm tx:ByteArray}{args:List Xs}(h:wX (.mk op nm tx n args)=true):Cu op nm tx n args.length=true∧ ∀x∈args,wX x=true:=by
 rw[wX,NU]at h
 simp only[Bool.and_eq_true,List.all_eq_true]at h
 exact h
theorem wX_sz{A:AH}{t:Xs}{r:Xr}(h:ExR A t r):wX t=true→SzX t:=by
 induction h with
 | @mk op n nm tx args p cap rs h0 h0' h1 h2 h3 ih=>
  intro hw
  obtain⟨hF,hall⟩:=SY hw
  obtain⟨z1,z2⟩:=Mv hF
  refine .mk (by omega) (by omega) fun x hx=> ?_
  obtain⟨k,hk⟩:=List.getElem?_of_mem hx
  have hlt:=(List.getElem?_eq_some_iff.1 hk).1
  exact ih k x _ hk (List.getElem?_eq_getElem (by omega)) (hall x hx)
theorem wr_all{A:AH}(hT:FY A)(b:Nat){t:Xs}{r:Xr}(h:ExR A t r):wX t=true→ ∀k:Int,WrC 94 [EG r,.int .i64 k] A b (GG k t):=by
 induction h with
 | @mk op n nm tx args p cap rs h0 h0' h1 h2 h3 ih=>
  intro hw k E acc hE dE hl
  obtain⟨hF,hall⟩:=SY hw
  have hA:ArC A b args rs:=fun i x s k hx hs=>ih i x s hx hs (hall x (List.mem_of_getElem? hx)) k
  have hI:op=15→WrC 139 [.agg #[.int .i64 op,.string nm,.string tx,.int .i64 n,.slice p args.length cap]] A b (CP 15 nm tx n (tL args)):=fun h15 E acc hE dE hl=>by
   have h2':2≤args.length:=by
    unfold Cu at hF
    subst h15
    simp at hF
    exact hF.2
   exact wiS_h A E b acc op n nm tx args p cap rs h0 h0' h1 h2 h2' hA hE dE hl
  have hb:WrC 117 [EG ⟨op,nm,tx,n,p,args.length,cap⟩] A b (tX (.mk op nm tx n args)):=fun E acc hE dE hl=>by
   rw[tX]at hl⊢
   exact wbS_h A E hT b acc op n nm tx args p cap rs h0 h1 h2 hF hA hI hE dE hl
  exact wrS_h A E b acc ⟨op,nm,tx,n,p,args.length,cap⟩ (.mk op nm tx n args) k rfl hb hE dE hl
theorem SK(op:Int):1≤Ev op∧Ev op≤6:=by unfold Ev;repeat' split;all_goals omega
theorem bF(t:Xs):GG 1 t=tX t:=by unfold GG WS;rw[if_pos (SK _).1]
def JY(t:Xs):List UInt8:=if wX t=true then tX t else []
theorem exV_h(A:AH)(hT:FY A)(t:Xs)(r:Xr)(h:ExR A t r)(hz:SzX t)(hl:(JY t).length≤1000000000):Ak Tryz.prog 68 #[.agg #[.int .i64 r.op,.string r.nm,.string r.tx,.int .i64 r.n,.slice r.p r.len r.cap]] A (fun u_ A_=>u_=.string (bs (JY t))∧SubA A A_):=by
 refine AQ ⟨Tryz.prog,68,Tryz.f68,10,[0,1,2,3],⟨[94,35],none⟩,[],_⟩ rfl (args:=[_]) Tryz.func68 rfl (by kernel_rfl) Tryz.ntmps68 (by simp) (by kernel_rfl) ?_
 intro ν fr;have nuE:=fr.nu
 have f0:=fr.2 0
 have iv:=fun o=>isW h hz ((ν 0,o)::A) (SubA.fresh f0 (SubA.refl _))
 simp only[EG,C8]at iv
 cases hw:wX t with
 |false=>
  rw[hw]at iv
  have he:JY t=[]:=by unfold JY;rw[hw];rfl
  rw[he]
  simp (maxDischargeDepth:=16) only[Af,↓Ae,simprocAttr,forall_const,nuE,fr.2,DQ,↓AK,↓AJ,AU,AR,Ab,Ac,Aq,CR,CU,iv]
  rfl
 |true=>
  rw[hw]at iv
  have he:JY t=tX t:=by unfold JY;rw[hw];rfl
  rw[he]at hl⊢
  simp (maxDischargeDepth:=16) only[Af,↓Ae,simprocAttr,forall_const,nuE,fr.2,DQ,↓AK,↓AJ,AU,AR,Ab,Ac,Aq,CR,CU,iv]
  have g1:=fr.2 1
  have n01:(ν 1=ν 0)=False:=by simp[nuE]
  have dst_:((ν 0=ν 1)=False)∧((ν 1=ν 0)=False):=(by simp[nuE]);generalize ν 0=n1 at dst_  f0 g1 n01 ⊢;generalize ν 1=n3 at dst_  f0 g1 n01⊢
  clear nuE fr iv
  have e13:n1≠n3:=fun h=>by rw[h]at n01;simp at n01
  have f3:Vm.AA ((n1,Obj.cells #[.int .i64 r.op,.string r.nm,.string r.tx,.int .i64 r.n,.slice r.p r.len r.cap] 36)::A) n3=none:=AY (eq_false e13) g1
  refine Xi (Y:=[]) (E:=[(n3,_)]) (A:=(n1,Obj.cells #[.int .i64 r.op,.string r.nm,.string r.tx,.int .i64 r.n,.slice r.p r.len r.cap] 36)::A) (wr_all (hT.mono (SubA.fresh f0 (SubA.refl _))) n3 (h.mono (SubA.fresh f0 (SubA.refl _))) hw 1 _ [] (FX.new n3) (Dis.one f3) (by rw[bF];simpa using hl)) (Dis.nil _).symm ?_
  intro E' hE' dE' _
  rw[bF,List.nil_append]at hE'
  simp only[List.nil_append]
  intro ν fr;have nuE:=fr.nu
  simp (maxDischargeDepth:=16) only[Af,↓Ae,simprocAttr,forall_const,nuE,fr.2,DQ,↓AK,↓AJ,AU,AR,Ab,Ac,Aq,CR,CU]
  refine Ak.useX (Ua E' n3 _ hE' hl) (SubA.left E' _) A (SubA.trans (SubA.fresh f0 (SubA.refl _)) dE'.right) (Dis.subr dE' (SubA.fresh f0 (SubA.refl _))) ?_
  rintro v D ⟨rfl,hdom⟩ dD
  refine⟨[],SubA.nil _, ?_⟩
  rw[List.nil_append]
  clear nuE fr
  intro ν fr;have nuE:=fr.nu
  simp (maxDischargeDepth:=16) only[Af,↓Ae,simprocAttr,forall_const,nuE,fr.2,DQ,↓AK,↓AJ,AU,AR,Ab,Ac,Aq,CR,CU]
theorem exV_w(A:AH)(hT:FY A)(t:Xs)(r:Xr)(h:ExR A t r)(hz:SzX t)(hl:(JY t).length≤1000000000)(B_:AH)(hB_:SubA A B_):Bi Tryz.prog 68 #[.agg #[.int .i64 r.op,.string r.nm,.string r.tx,.int .i64 r.n,.slice r.p r.len r.cap]] B_=some (.string (bs (JY t))):=BP (Ce (by kernel_rfl) (exV_h A hT t r h hz hl) hB_)
end Go.Proofs.YtfphceknmgadgaaGreatDoor
