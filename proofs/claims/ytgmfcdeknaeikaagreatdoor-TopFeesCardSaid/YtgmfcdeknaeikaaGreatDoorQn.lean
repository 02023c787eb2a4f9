/-
Expressions written.
Conditions: none.
-/
import Derived.Test.YtgmfcdeknaeikaaGreatDoorQm
set_option linter.unusedSimpArgs false
set_option linter.unusedVariables false
namespace Go.Proofs.YtgmfcdeknaeikaaGreatDoor
open Go.Vm
set_option maxHeartbeats 4000000
set_option maxRecDepth 20000
def Ga(op:Int):Int:=if op=7 then 1 else if op=6 then 2 else if op=8∨op=9∨op=10∨op=11∨op=15 then 3 else if op=12∨op=13 then 4 else if op=14 then 5 else 6
def Gj(op:Int):List UInt8:=if op=7 then [111,114]else if op=6 then [97,110,100]else if op=8 then [61]else if op=9 then [33,61]else if op=10 then [60]else if op=11 then [60,61]else if op=12 then [43]else if op=13 then [45]else [42]
def Ur(k:Int)(p:Int×List UInt8):List UInt8:=if k≤Ga p.1 then p.2 else 40::(p.2++[41])
def T2(l:List (Int×List UInt8))(i:Nat)(k:Int):List UInt8:=Ur k (l.getD i (0,[]))
def aN(l:List (Int×List UInt8)):List UInt8:=l.flatMap fun p=>[44,32]++Ur 4 p
def M4:List (Int×List UInt8)→List UInt8
 | []=>[]
 |p::l=>Ur 4 p++aN l
def QW(op:Int):Int:=if Ga op=3 then 4 else Ga op
def Bf(op:Int)(nm tx:ByteArray)(n:Int)(l:List (Int×List UInt8)):List UInt8:=
 if op=1 then Lib.itoa n
 else if op=2 then 34::(tx.data.toList++[34])
 else if op=3 then nm.data.toList
 else if op=16 then [99,111,117,110,116,40]++nm.data.toList++[44,32]++Lib.itoa n++[41]
 else if op=17 then [115,117,109,40]++nm.data.toList++[44,32]++Lib.itoa n++[41]
 else if op=4 then [110,111,116,32]++T2 l 0 6
 else if op=5 then 45::T2 l 0 6
 else if op=15 then T2 l 0 4++[32,105,110,32,40]++M4 (l.drop 1)++[41]
 else T2 l 0 (QW op)++([32]++Gj op++[32])++T2 l 1 (Ga op+1)
def opO:Xs→Int
 | .mk op _ _ _ _=>op
mutual
def tX:Xs→List UInt8
 | .mk op nm tx n args=>Bf op nm tx n (tL args)
def tL:List Xs→List (Int×List UInt8)
 | []=>[]
 |x::l=>(opO x,tX x)::tL l
end
theorem Fp: ∀l:List Xs,tL l=l.map fun x=>(opO x,tX x)
 | []=>by simp[tL]
 |x::l=>by simp[tL,Fp l]
def Nt(k:Int)(t:Xs):List UInt8:=Ur k (opO t,tX t)
theorem qX(op:Int):AK Tryz.prog 104 #[.int .i64 op] [] (fun u_ _=>u_=.int .i64 (Ga op)):=by
 refine AC ⟨Tryz.prog,104,Tryz.f104,19,[0,2,3],⟨[],none⟩,[],_⟩ rfl (args:=[_]) Tryz.func104 rfl (by kernel_rfl) Tryz.ntmps104 (by simp) (by kernel_rfl) ?_
 intro ν fr
 simp only[AF,↓AE,simprocAttr]
 unfold Ga
 repeat' split
 all_goals simp_all
theorem FQ(op:Int)(A_:AH):Ag Tryz.prog 104 #[.int .i64 op] A_=some (.int .i64 (Ga op)):=AX (BD (by kernel_rfl) (qX op))
theorem rN(op:Int):AK Tryz.prog 136 #[.int .i64 op] [] (fun u_ _=>u_=.string (bs (Gj op))):=by
 refine AC ⟨Tryz.prog,136,Tryz.f136,20,[0,2,3],⟨[],none⟩,[],_⟩ rfl (args:=[_]) Tryz.func136 rfl (by kernel_rfl) Tryz.ntmps136 (by simp) (by kernel_rfl) ?_
 intro ν fr
 simp only[AF,↓AE,simprocAttr]
 unfold Gj
 repeat' split
 all_goals simp_all[bs]
theorem VD(op:Int)(A_:AH):Ag Tryz.prog 136 #[.int .i64 op] A_=some (.string (bs (Gj op))):=AX (BD (by kernel_rfl) (rN op))
theorem VT{P:Program}{g:FuncId}{args:Array Value}{E Y A:AH}{b:Nat}{acc:List UInt8}{u0:Value}{K:Value→AH→Prop}(hc:AK P g args (E++A) fun u D=>u=u0∧ ∃E',ED E' b acc∧Dis E' A∧SubA (E'++A) D)(hd:Dis (E++A) Y)
  (hk: ∀E',ED E' b acc→Dis E' A→Dis (E'++A) Y→K u0 (Y++(E'++A))):AK P g args (Y++(E++A)) K:=by
 refine AK.toX hc hd.symm.right Y (SubA.left _ _) hd ?_
 rintro v D ⟨rfl,E',h1,h2,h3⟩ dD
 exact⟨_,SubA.front dD h3,hk E' h1 h2 (dD.subl h3)⟩
theorem Rn{P:Program}{g:FuncId}{args:Array Value}{E Y A:AH}{b:Nat}{acc:List UInt8}{u0:Value}{K:Value→AH→Prop}(hc:AK P g args E fun u A'=>u=u0∧ ∃E',ED E' b acc∧SubA E' A'∧ ∀b,Vm.AA E b≠none→Vm.AA A' b≠none)(hE:Dis E A)(hd:Dis (E++A) Y)
  (hk: ∀E',ED E' b acc→Dis E' A→Dis (E'++A) Y→K u0 (Y++(E'++A))):AK P g args (Y++(E++A)) K:=by
 refine VT (E:=E) (A:=A) (acc:=acc) (u0:=u0) ?_ hd hk
 refine AK.toX hc (SubA.left _ _) A hE.right hE ?_
 rintro v D ⟨rfl,E',h1,h2,h3⟩ dD
 exact⟨D++A,SubA.refl _,rfl,E',h1,dD.subl h2,SubA.both (SubA.trans h2 (SubA.left _ _)) dD.right⟩
def pF(f:FuncId)(args:List Value)(A:AH)(b:Nat)(w:List UInt8):Prop:= ∀(E:AH) (acc:List UInt8),ED E b acc→Dis E A→acc.length+w.length≤1000000000→AK Tryz.prog f (Value.pointer (some ⟨b,0,none⟩)::args).toArray (E++A) fun u D=>u=.tuple #[]∧ ∃E',ED E' b (acc++w)∧Dis E' A∧SubA (E'++A) D
theorem sJ(A E:AH)(b:Nat)(acc:List UInt8)(r:Xr)(t:Xs)(k:Int)(hop:r.op=opO t)(hb:pF 105 [Bt r] A b (tX t))(hE:ED E b acc)(dE:Dis E A)(hl:acc.length+(Nt k t).length≤1000000000):AK Tryz.prog 73 #[.pointer (some ⟨b,0,none⟩),.agg #[.int .i64 r.op,.string r.nm,.string r.tx,.int .i64 r.n,.slice r.p r.len r.cap],.int .i64 k] (E++A) (fun u_ A_=>u_=.tuple #[]∧ ∃E',ED E' b (acc++Nt k t)∧Dis E' A∧SubA (E'++A) A_):=by
 refine AC ⟨Tryz.prog,73,Tryz.f73,21,[0,1,2,4],⟨[105,106],none⟩,[],_⟩ rfl (args:=[_,_,_]) Tryz.func73 rfl (by kernel_rfl) Tryz.ntmps73 (by simp) (by kernel_rfl) ?_
 intro ν fr
 have f0:=fr.2 0
 by_cases hk:k≤Ga r.op
 ·have hT:Nt k t=tX t:=by unfold Nt Ur;rw[if_pos (by rw[←hop];exact hk)]
  rw[hT]at hl⊢
  simp only[AF,↓AE,simprocAttr,FQ,eq_true hk]
  have dst_:True:=(by simp[]);generalize ν 0=n1 at dst_  f0⊢
  clear fr
  refine VT (Y:=[(n1,_)]) (hb E acc hE dE hl) (Dis.one f0).symm ?_
  intro E' hE' dE' dY
  simp only[List.cons_append,List.nil_append]
  intro ν fr
  simp only[AF,↓AE,simprocAttr]
  exact⟨rfl,E',hE',dE',SubA.fresh (dY n1 (by simp[Vm.AA])) (SubA.refl _)⟩
 ·have hT:Nt k t=[40]++tX t++[41]:=by unfold Nt Ur;rw[if_neg (by rw[←hop];exact hk)];simp
  rw[hT]at hl⊢
  simp only[List.length_append,List.length_cons,List.length_nil]at hl
  simp only[AF,↓AE,simprocAttr,FQ,eq_false hk]
  have dst_:True:=(by simp[]);generalize ν 0=n1 at dst_  f0⊢
  clear fr
  refine Rn (Y:=[(n1,_)]) (LA E b acc 40 hE (by omega)) dE (Dis.one f0).symm ?_
  intro E1 hE1 dE1 dY1
  simp only[List.cons_append,List.nil_append]
  intro ν fr
  simp only[AF,↓AE,simprocAttr]
  clear fr
  refine VT (Y:=[(n1,_)]) (hb E1 _ hE1 dE1 (by simp;omega)) dY1 ?_
  intro E2 hE2 dE2 dY2
  simp only[List.cons_append,List.nil_append]
  intro ν fr
  simp only[AF,↓AE,simprocAttr]
  clear fr
  refine Rn (Y:=[(n1,_)]) (LA E2 b _ 41 hE2 (by simp;omega)) dE2 dY2 ?_
  intro E3 hE3 dE3 dY3
  simp only[List.cons_append,List.nil_append]
  intro ν fr
  simp only[AF,↓AE,simprocAttr]
  exact⟨rfl,E3,by simpa using hE3,dE3,SubA.fresh (dY3 n1 (by simp[Vm.AA])) (SubA.refl _)⟩
set_option maxHeartbeats 4000000
set_option maxRecDepth 20000
theorem La{args:List Xs}{i:Nat}{x:Xs}(k:Int)(h:args[i]? =some x):T2 (tL args) i k=Nt k x:=by
 unfold T2 Nt
 rw[Fp,List.getD_eq_getElem?_getD,List.getElem?_map,h]
 rfl
def sj(A:AH)(b:Nat)(args:List Xs)(rs:List Xr):Prop:= ∀(i:Nat) (x:Xs) (s:Xr) (k:Int),args[i]? =some x→rs[i]? =some s→pF 73 [Bt s,.int .i64 k] A b (Nt k x)
theorem qb{s:ByteArray}(h:JE s=true):s.data.toList≠[]:=by
 intro e
 unfold JE Bp at h
 simp only[Bool.and_eq_true,decide_eq_true_eq]at h
 have:s.toList=[]:=by rw[ByteArray.toList_eq];exact e
 have h2:=AP s
 rw[this]at h2
 simp at h2
 omega
theorem Jd(n:Int):Lib.itoa n≠[]:=by
 unfold Lib.itoa
 split
 ·simp
 ·exact Hm _
theorem G3{n:Int}(h1: -9223372036854775808≤n)(h2:n≤9223372036854775807):(Lib.itoa n).length≤20:=by
 unfold Lib.itoa
 split
 ·have:=HD 19 n.natAbs (by omega) (by omega)
  simp;omega
 ·have:=HD 19 n.toNat (by omega) (by omega)
  omega
theorem kJ(op:Int):(Gj op).length≤3:=by
 unfold Gj
 repeat' split
 all_goals simp
theorem lz(l:Array UInt8):ByteArray.size ⟨l⟩=l.size:=rfl
theorem UX{α:Type}{l:List α}(h:l.length=2): ∃x y,l=[x,y]:=by
 match l,h with
 | [x,y],_=>exact⟨x,y,rfl⟩
theorem iJ{op:Int}{nm tx:ByteArray}{n:Int}{k:Nat}(h:Cy op nm tx n k=true): -9223372036854775808≤n∧n≤9223372036854775807:=by
 unfold Cy at h
 split at h
 ·simp only[Bool.and_eq_true,decide_eq_true_eq]at h;omega
 ·split at h
  ·simp only[Bool.and_eq_true,decide_eq_true_eq]at h;omega
  ·split at h
   ·simp only[Bool.and_eq_true,decide_eq_true_eq]at h;omega
   ·split at h
    ·simp only[Bool.and_eq_true,decide_eq_true_eq]at h;omega
    ·simp only[Bool.and_eq_true,decide_eq_true_eq]at h;omega
theorem r7(A E:AH)(hT:Dv A)(b:Nat)(acc:List UInt8)(op n:Int)(nm tx:ByteArray)(args:List Xs)(p:Option Addr)(cap:Nat)(rs:List Xr)(hl:args.length≤140737488355328)(hrs:rs.length=args.length)(hS:B5 Ba 5 A p rs)(hF:Cy op nm tx n args.length=true)(hA:sj A b args rs)(hI:op=15→pF 135 [.agg #[.int .i64 op,.string nm,.string tx,.int .i64 n,.slice p args.length cap]] A b (Bf 15 nm tx n (tL args)))(hE:ED E b acc)(dE:Dis E A)(hsz:acc.length+(Bf op nm tx n (tL args)).length≤1000000000):AK Tryz.prog 105 #[.pointer (some ⟨b,0,none⟩),.agg #[.int .i64 op,.string nm,.string tx,.int .i64 n,.slice p args.length cap]] (E++A) (fun u_ A_=>u_=.tuple #[]∧ ∃E',ED E' b (acc++Bf op nm tx n (tL args))∧Dis E' A∧SubA (E'++A) A_):=by
 refine AC ⟨Tryz.prog,105,Tryz.f105,108,[0,1,3,4,5,7],⟨[73,135,106,17],none⟩,[],_⟩ rfl (args:=[_,_]) Tryz.func105 rfl (by kernel_rfl) Tryz.ntmps105 (by simp) (by kernel_rfl) ?_
 intro ν fr
 have f0:=fr.2 0
 obtain⟨hn1,hn2⟩:=iJ hF
 have fmt:=fun o=>QJ A hT n hn1 hn2 ((ν 0,o)::(E++A)) (SubA.fresh f0 dE.right)
 by_cases o1:op=1
 ·subst o1
  have hB:Bf 1 nm tx n (tL args)=Lib.itoa n:=rfl
  rw[hB]at hsz⊢
  simp only[AF,↓AE,simprocAttr,FQ,fmt]
  have dst_:True:=(by simp[]);generalize ν 0=n1 at dst_  f0⊢
  clear fr fmt
  refine Rn (Y:=[(n1,_)]) (Dl E b acc (Lib.itoa n) hE (Jd n) hsz) dE (Dis.one f0).symm ?_
  intro E1 hE1 dE1 dY1
  simp only[List.cons_append,List.nil_append]
  intro ν fr
  simp only[AF,↓AE,simprocAttr]
  exact⟨rfl,E1,hE1,dE1,SubA.fresh (dY1 n1 (by simp[Vm.AA])) (SubA.refl _)⟩
 by_cases o2:op=2
 ·subst o2
  have hB:Bf 2 nm tx n (tL args)=34::(tx.data.toList++[34]):=rfl
  rw[hB]at hsz⊢
  have hsz2:=(LH hF).2
  have s1:(ByteArray.size ⟨#[34]⟩+tx.size≤9223372036854775807):=by simp only[lz,List.size_toArray,List.length_cons,List.length_nil];omega
  have s2:((⟨#[34]⟩++tx:ByteArray).size+ByteArray.size ⟨#[34]⟩≤9223372036854775807):=by simp only[ByteArray.size_append,lz,List.size_toArray,List.length_cons,List.length_nil];omega
  have s3:(⟨#[34]⟩++tx++⟨#[34]⟩:ByteArray)=bs (34::(tx.data.toList++[34])):=Ed (by simp[bs])
  simp only[AF,↓AE,simprocAttr,FQ,s1,s2,s3]
  have dst_:True:=(by simp[]);generalize ν 0=n1 at dst_  f0⊢
  clear fr fmt
  refine Rn (Y:=[(n1,_)]) (Dl E b acc _ hE (by simp) hsz) dE (Dis.one f0).symm ?_
  intro E1 hE1 dE1 dYE1
  simp only[List.cons_append,List.nil_append]
  intro ν fr
  simp only[AF,↓AE,simprocAttr]
  exact⟨rfl,E1,by simpa using hE1,dE1,SubA.fresh (dYE1 n1 (by simp[Vm.AA])) (SubA.refl _)⟩
 by_cases o3:op=3
 ·subst o3
  have hB:Bf 3 nm tx n (tL args)=nm.data.toList:=rfl
  rw[hB]at hsz⊢
  have hnm:JE nm=true:=by
   unfold Cy at hF
   simp only[Bool.and_eq_true,Int.reduceEq,if_false,if_true]at hF
   exact hF.1.1.1
  have hne:=qb hnm
  have s3:nm=bs nm.data.toList:=pf nm
  generalize nm.data.toList=ln at hsz hne s3
  subst s3
  simp only[AF,↓AE,simprocAttr,FQ]
  have dst_:True:=(by simp[]);generalize ν 0=n1 at dst_  f0⊢
  clear fr fmt
  refine Rn (Y:=[(n1,_)]) (Dl E b acc _ hE hne hsz) dE (Dis.one f0).symm ?_
  intro E1 hE1 dE1 dYE1
  simp only[List.cons_append,List.nil_append]
  intro ν fr
  simp only[AF,↓AE,simprocAttr]
  exact⟨rfl,E1,by simpa using hE1,dE1,SubA.fresh (dYE1 n1 (by simp[Vm.AA])) (SubA.refl _)⟩
 by_cases o16:op=16
 ·subst o16
  have hB:Bf 16 nm tx n (tL args)=[99,111,117,110,116,40]++nm.data.toList++[44,32]++Lib.itoa n++[41]:=rfl
  rw[hB]at hsz⊢
  have hsz2:=(LH hF).1
  have il:=G3 hn1 hn2
  have s1:(ByteArray.size ⟨#[99,111,117,110,116,40]⟩+nm.size≤9223372036854775807):=by simp only[lz,List.size_toArray,List.length_cons,List.length_nil];omega
  have s2:((⟨#[99,111,117,110,116,40]⟩++nm:ByteArray).size+ByteArray.size ⟨#[44,32]⟩≤9223372036854775807):=by simp only[ByteArray.size_append,lz,List.size_toArray,List.length_cons,List.length_nil];omega
  have s3:((⟨#[99,111,117,110,116,40]⟩++nm++⟨#[44,32]⟩:ByteArray).size+(bs (Lib.itoa n)).size≤9223372036854775807):=by simp only[ByteArray.size_append,Ab,lz,List.size_toArray,List.length_cons,List.length_nil];omega
  have s4:((⟨#[99,111,117,110,116,40]⟩++nm++⟨#[44,32]⟩++bs (Lib.itoa n):ByteArray).size+ByteArray.size ⟨#[41]⟩≤9223372036854775807):=by simp only[ByteArray.size_append,Ab,lz,List.size_toArray,List.length_cons,List.length_nil];omega
  have s5:(⟨#[99,111,117,110,116,40]⟩++nm++⟨#[44,32]⟩++bs (Lib.itoa n)++⟨#[41]⟩:ByteArray)=bs ([99,111,117,110,116,40]++nm.data.toList++[44,32]++Lib.itoa n++[41]):=Ed (by simp[bs])
  simp only[AF,↓AE,simprocAttr,FQ]
  have dst_:True:=(by simp[]);generalize ν 0=n1 at dst_  f0⊢
  clear fr
  have fA:Vm.AA A n1=none:=dE.right.none f0
  have sAs: ∀E':AH,Dis E' A→SubA ((n1,.cells #[.int .i64 16,.string nm,.string tx,.int .i64 n,.slice p args.length cap] 60)::A) ((n1,.cells #[.int .i64 16,.string nm,.string tx,.int .i64 n,.slice p args.length cap] 60)::(E'++A)):=fun E' d=>SubA.app (B:=[_]) d.right
  refine Av.plan [(0,0),(1,0),(2,0),(3,0),(4,0),(5,0),(6,0),(7,0),(8,0),(9,0),(10,0)] _ (sAs E dE) (by kernel_rfl) (by kernel_rfl) (by kernel_rfl) (by kernel_rfl) (by kernel_rfl) (by kernel_rfl) ?_
  intro ν fr
  have fmt2:=fun o=>QJ A hT n hn1 hn2 ((n1,o)::A) (SubA.fresh fA (SubA.refl _))
  simp only[AF,↓AE,simprocAttr,fmt2,s1,s2,s3,s4,s5]
  clear fr fmt fmt2
  refine Rn (Y:=[(n1,_)]) (Dl E b acc _ hE (by simp) hsz) dE (Dis.one f0).symm ?_
  intro E1 hE1 dE1 dYE1
  simp only[List.cons_append,List.nil_append]
  intro ν fr
  simp only[AF,↓AE,simprocAttr,eq_true (sAs E1 dE1)]
  exact⟨rfl,E1,by simpa using hE1,dE1,SubA.fresh (dYE1 n1 (by simp[Vm.AA])) (SubA.refl _)⟩
 by_cases o17:op=17
 ·subst o17
  have hB:Bf 17 nm tx n (tL args)=[115,117,109,40]++nm.data.toList++[44,32]++Lib.itoa n++[41]:=rfl
  rw[hB]at hsz⊢
  have hsz2:=(LH hF).1
  have il:=G3 hn1 hn2
  have s1:(ByteArray.size ⟨#[115,117,109,40]⟩+nm.size≤9223372036854775807):=by simp only[lz,List.size_toArray,List.length_cons,List.length_nil];omega
  have s2:((⟨#[115,117,109,40]⟩++nm:ByteArray).size+ByteArray.size ⟨#[44,32]⟩≤9223372036854775807):=by simp only[ByteArray.size_append,lz,List.size_toArray,List.length_cons,List.length_nil];omega
  have s3:((⟨#[115,117,109,40]⟩++nm++⟨#[44,32]⟩:ByteArray).size+(bs (Lib.itoa n)).size≤9223372036854775807):=by simp only[ByteArray.size_append,Ab,lz,List.size_toArray,List.length_cons,List.length_nil];omega
  have s4:((⟨#[115,117,109,40]⟩++nm++⟨#[44,32]⟩++bs (Lib.itoa n):ByteArray).size+ByteArray.size ⟨#[41]⟩≤9223372036854775807):=by simp only[ByteArray.size_append,Ab,lz,List.size_toArray,List.length_cons,List.length_nil];omega
  have s5:(⟨#[115,117,109,40]⟩++nm++⟨#[44,32]⟩++bs (Lib.itoa n)++⟨#[41]⟩:ByteArray)=bs ([115,117,109,40]++nm.data.toList++[44,32]++Lib.itoa n++[41]):=Ed (by simp[bs])
  simp only[AF,↓AE,simprocAttr,FQ]
  have dst_:True:=(by simp[]);generalize ν 0=n1 at dst_  f0⊢
  clear fr
  have fA:Vm.AA A n1=none:=dE.right.none f0
  have sAs: ∀E':AH,Dis E' A→SubA ((n1,.cells #[.int .i64 17,.string nm,.string tx,.int .i64 n,.slice p args.length cap] 60)::A) ((n1,.cells #[.int .i64 17,.string nm,.string tx,.int .i64 n,.slice p args.length cap] 60)::(E'++A)):=fun E' d=>SubA.app (B:=[_]) d.right
  refine Av.plan [(0,0),(1,0),(2,0),(3,0),(4,0),(5,0),(6,0),(7,0),(8,0),(9,0),(10,0)] _ (sAs E dE) (by kernel_rfl) (by kernel_rfl) (by kernel_rfl) (by kernel_rfl) (by kernel_rfl) (by kernel_rfl) ?_
  intro ν fr
  have fmt2:=fun o=>QJ A hT n hn1 hn2 ((n1,o)::A) (SubA.fresh fA (SubA.refl _))
  simp only[AF,↓AE,simprocAttr,fmt2,s1,s2,s3,s4,s5]
  clear fr fmt fmt2
  refine Rn (Y:=[(n1,_)]) (Dl E b acc _ hE (by simp) hsz) dE (Dis.one f0).symm ?_
  intro E1 hE1 dE1 dYE1
  simp only[List.cons_append,List.nil_append]
  intro ν fr
  simp only[AF,↓AE,simprocAttr,eq_true (sAs E1 dE1)]
  exact⟨rfl,E1,by simpa using hE1,dE1,SubA.fresh (dYE1 n1 (by simp[Vm.AA])) (SubA.refl _)⟩
 by_cases o4:op=4
 ·subst o4
  have h1:args.length=1:=by
   unfold Cy at hF
   simp at hF
   omega
  obtain⟨x,rfl⟩:=List.length_eq_one_iff.1 h1
  obtain⟨s,rfl⟩:=List.length_eq_one_iff.1 hrs
  have hB:Bf 4 nm tx n (tL [x])=[110,111,116,32]++Nt 6 x:=by rw[←La (args:=[x]) (i:=0) 6 rfl];rfl
  rw[hB]at hsz⊢
  simp only[List.length_append,List.length_cons,List.length_nil]at hsz
  simp only[AF,↓AE,simprocAttr,FQ]
  have dst_:True:=(by simp[]);generalize ν 0=n1 at dst_  f0⊢
  clear fr fmt
  refine Rn (Y:=[(n1,_)]) (Dl E b acc [110,111,116,32] hE (by simp) (by simp;omega)) dE (Dis.one f0).symm ?_
  intro E1 hE1 dE1 dYE1
  simp only[List.cons_append,List.nil_append]
  intro ν fr
  obtain⟨bk,off,cs,ty,fr0,hp0,hbk,hcr,hcc⟩:=hS.at (i:=0) rfl
  subst hp0
  have hbk1:=dE1.right _ _ hbk
  obtain⟨q1,q2⟩:=AU (dYE1 n1 (by simp[Vm.AA])) hbk1
  simp only[Ba,Nat.zero_mul,Nat.add_zero]at hcr
  simp only[AF,↓AE,simprocAttr,hbk1,hcr,q1]
  clear fr
  refine VT (Y:=[(n1,_)]) (hA 0 x s 6 rfl rfl E1 _ hE1 dE1 (by simp;omega)) dYE1 ?_
  intro E2 hE2 dE2 dYE2
  simp only[List.cons_append,List.nil_append]
  intro ν fr
  simp only[AF,↓AE,simprocAttr]
  exact⟨rfl,E2,by simpa using hE2,dE2,SubA.fresh (dYE2 n1 (by simp[Vm.AA])) (SubA.refl _)⟩
 by_cases o5:op=5
 ·subst o5
  have h1:args.length=1:=by
   unfold Cy at hF
   simp at hF
   omega
  obtain⟨x,rfl⟩:=List.length_eq_one_iff.1 h1
  obtain⟨s,rfl⟩:=List.length_eq_one_iff.1 hrs
  have hB:Bf 5 nm tx n (tL [x])=[45]++Nt 6 x:=by rw[←La (args:=[x]) (i:=0) 6 rfl];rfl
  rw[hB]at hsz⊢
  simp only[List.length_append,List.length_cons,List.length_nil]at hsz
  simp only[AF,↓AE,simprocAttr,FQ]
  have dst_:True:=(by simp[]);generalize ν 0=n1 at dst_  f0⊢
  clear fr fmt
  refine Rn (Y:=[(n1,_)]) (LA E b acc 45 hE (by omega)) dE (Dis.one f0).symm ?_
  intro E1 hE1 dE1 dYE1
  simp only[List.cons_append,List.nil_append]
  intro ν fr
  obtain⟨bk,off,cs,ty,fr0,hp0,hbk,hcr,hcc⟩:=hS.at (i:=0) rfl
  subst hp0
  have hbk1:=dE1.right _ _ hbk
  obtain⟨q1,q2⟩:=AU (dYE1 n1 (by simp[Vm.AA])) hbk1
  simp only[Ba,Nat.zero_mul,Nat.add_zero]at hcr
  simp only[AF,↓AE,simprocAttr,hbk1,hcr,q1]
  clear fr
  refine VT (Y:=[(n1,_)]) (hA 0 x s 6 rfl rfl E1 _ hE1 dE1 (by simp;omega)) dYE1 ?_
  intro E2 hE2 dE2 dYE2
  simp only[List.cons_append,List.nil_append]
  intro ν fr
  simp only[AF,↓AE,simprocAttr]
  exact⟨rfl,E2,by simpa using hE2,dE2,SubA.fresh (dYE2 n1 (by simp[Vm.AA])) (SubA.refl _)⟩
 by_cases o15:op=15
 ·subst o15
  simp only[AF,↓AE,simprocAttr,FQ]
  have dst_:True:=(by simp[]);generalize ν 0=n1 at dst_  f0⊢
  clear fr fmt
  refine VT (Y:=[(n1,_)]) (hI rfl E acc hE dE hsz) (Dis.one f0).symm ?_
  intro E1 hE1 dE1 dYE1
  simp only[List.cons_append,List.nil_append]
  intro ν fr
  simp only[AF,↓AE,simprocAttr]
  exact⟨rfl,E1,by simpa using hE1,dE1,SubA.fresh (dYE1 n1 (by simp[Vm.AA])) (SubA.refl _)⟩
 have hm:6≤op∧op≤14∧args.length=2:=by
  unfold Cy at hF
  rw[if_neg o1,if_neg o2,if_neg o3,if_neg (by omega),if_neg (by omega)]at hF
  simp only[Bool.and_eq_true]at hF
  have:=hF.2
  split at this
  ·rename_i h;simp at this;omega
  ·simp at this;omega
 obtain⟨hm1,hm2,h2⟩:=hm
 obtain⟨x,y,rfl⟩:=UX h2
 obtain⟨s,s',rfl⟩:=UX (hrs.trans h2)
 have hB:Bf op nm tx n (tL [x,y])=Nt (QW op) x++([32]++Gj op++[32])++Nt (Ga op+1) y:=by
  rw[←La (args:=[x,y]) (i:=0) _ rfl,←La (args:=[x,y]) (i:=1) _ rfl]
  unfold Bf
  rw[if_neg o1,if_neg o2,if_neg o3,if_neg o16,if_neg o17,if_neg o4,if_neg o5,if_neg o15]
 rw[hB]at hsz⊢
 simp only[List.length_append,List.length_cons,List.length_nil]at hsz
 have lv:0≤Ga op∧Ga op≤6:=by unfold Ga;repeat' split;all_goals omega
 have wl:IntKind.i64.wrap (Ga op+1)=Ga op+1:=AW (by omega) (by omega)
 have sl:=kJ op
 have s1:(ByteArray.size ⟨#[32]⟩+(bs (Gj op)).size≤9223372036854775807):=by simp only[Ab,lz,List.size_toArray,List.length_cons,List.length_nil];omega
 have s2:((⟨#[32]⟩++bs (Gj op):ByteArray).size+ByteArray.size ⟨#[32]⟩≤9223372036854775807):=by simp only[ByteArray.size_append,Ab,lz,List.size_toArray,List.length_cons,List.length_nil];omega
 have s3:(⟨#[32]⟩++bs (Gj op)++⟨#[32]⟩:ByteArray)=bs ([32]++Gj op++[32]):=Ed (by simp[bs])
 obtain⟨bk,off,cs,ty,fr0,hp0,hbk,hcr,hcc⟩:=hS.at (i:=0) rfl
 obtain⟨bk',off',cs',ty',fr0',hp0',hbk',hcr',hcc'⟩:=hS.at (i:=1) rfl
 subst hp0
 cases hp0'
 have hbkE:=dE.right _ _ hbk
 obtain⟨q1,q2⟩:=AU f0 hbkE
 rw[hbk]at hbk'
 cases hbk'
 simp only[Ba,Nat.zero_mul,Nat.add_zero,Nat.one_mul]at hcr hcr'
 by_cases hl3:Ga op=3
 ·have hle:QW op=4:=by unfold QW;rw[if_pos hl3]
  have h4:Ga op+1=4:=by omega
  have w4:IntKind.i64.wrap 4=4:=rfl
  rw[hle,h4]at hsz⊢
  simp only[AF,↓AE,simprocAttr,FQ,eq_false o1,eq_false o2,eq_false o3,eq_false o16,eq_false o17,eq_false o4,eq_false o5,eq_false o15,hl3,hbkE,hcr,q1]
  have dst_:True:=(by simp[]);generalize ν 0=n1 at dst_  f0⊢
  clear fr fmt
  refine VT (Y:=[(n1,_)]) (hA 0 x s (4) rfl rfl E acc hE dE (by omega)) (Dis.one f0).symm ?_
  intro E1 hE1 dE1 dYE1
  simp only[List.cons_append,List.nil_append]
  intro ν fr
  simp only[AF,↓AE,simprocAttr,VD,s1,s2,s3]
  clear fr
  refine Rn (Y:=[(n1,_)]) (Dl E1 b _ _ hE1 (by simp) (by simp;omega)) dE1 dYE1 ?_
  intro E2 hE2 dE2 dYE2
  simp only[List.cons_append,List.nil_append]
  intro ν fr
  have hbk2:=dE2.right _ _ hbk
  obtain⟨q1,q2⟩:=AU (dYE2 n1 (by simp[Vm.AA])) hbk2
  simp only[AF,↓AE,simprocAttr,hbk2,hcr',q1,w4]
  clear fr
  refine VT (Y:=[(n1,_)]) (hA 1 y s' 4 rfl rfl E2 _ hE2 dE2 (by simp;omega)) dYE2 ?_
  intro E3 hE3 dE3 dYE3
  simp only[List.cons_append,List.nil_append]
  intro ν fr
  simp only[AF,↓AE,simprocAttr]
  exact⟨rfl,E3,by simpa using hE3,dE3,SubA.fresh (dYE3 n1 (by simp[Vm.AA])) (SubA.refl _)⟩
 ·have hle:QW op=Ga op:=by unfold QW;rw[if_neg hl3]
  rw[hle]at hsz⊢
  simp only[AF,↓AE,simprocAttr,FQ,eq_false o1,eq_false o2,eq_false o3,eq_false o16,eq_false o17,eq_false o4,eq_false o5,eq_false o15,eq_false hl3,hbkE,hcr,q1]
  have dst_:True:=(by simp[]);generalize ν 0=n1 at dst_  f0⊢
  clear fr fmt
  refine VT (Y:=[(n1,_)]) (hA 0 x s (Ga op) rfl rfl E acc hE dE (by omega)) (Dis.one f0).symm ?_
  intro E1 hE1 dE1 dYE1
  simp only[List.cons_append,List.nil_append]
  intro ν fr
  simp only[AF,↓AE,simprocAttr,VD,s1,s2,s3]
  clear fr
  refine Rn (Y:=[(n1,_)]) (Dl E1 b _ _ hE1 (by simp) (by simp;omega)) dE1 dYE1 ?_
  intro E2 hE2 dE2 dYE2
  simp only[List.cons_append,List.nil_append]
  intro ν fr
  have hbk2:=dE2.right _ _ hbk
  obtain⟨q1,q2⟩:=AU (dYE2 n1 (by simp[Vm.AA])) hbk2
  simp only[AF,↓AE,simprocAttr,hbk2,hcr',q1,wl]
  clear fr
  refine VT (Y:=[(n1,_)]) (hA 1 y s' (Ga op+1) rfl rfl E2 _ hE2 dE2 (by simp;omega)) dYE2 ?_
  intro E3 hE3 dE3 dYE3
  simp only[List.cons_append,List.nil_append]
  intro ν fr
  simp only[AF,↓AE,simprocAttr]
  exact⟨rfl,E3,by simpa using hE3,dE3,SubA.fresh (dYE3 n1 (by simp[Vm.AA])) (SubA.refl _)⟩
set_option maxHeartbeats 4000000
set_option maxRecDepth 20000
theorem aK(l:List (Int×List UInt8))(p:Int×List UInt8):M4 (l++[p])=if l.length=0 then Ur 4 p else M4 l++[44,32]++Ur 4 p:=by
 cases l with
 |nil=>simp[M4,aN]
 |cons q l=>simp[M4,aN]
theorem sC(A E:AH)(b:Nat)(acc:List UInt8)(op n:Int)(nm tx:ByteArray)(args:List Xs)(p:Option Addr)(cap:Nat)(rs:List Xr)(hl:args.length≤140737488355328)(hcap:args.length≤cap)(hrs:rs.length=args.length)(hS:B5 Ba 5 A p rs)(h2:2≤args.length)(hA:sj A b args rs)(hE:ED E b acc)(dE:Dis E A)(hsz:acc.length+(Bf 15 nm tx n (tL args)).length≤1000000000):AK Tryz.prog 135 #[.pointer (some ⟨b,0,none⟩),.agg #[.int .i64 op,.string nm,.string tx,.int .i64 n,.slice p args.length cap]] (E++A) (fun u_ A_=>u_=.tuple #[]∧ ∃E',ED E' b (acc++Bf 15 nm tx n (tL args))∧Dis E' A∧SubA (E'++A) A_):=by
 refine AC ⟨Tryz.prog,135,Tryz.f135,33,[0,1,3,4,5,16,17,18],⟨[73,106,17],none⟩,[],_⟩ rfl (args:=[_,_]) Tryz.func135 rfl (by kernel_rfl) Tryz.ntmps135 (by simp) (by kernel_rfl) ?_
 intro ν fr
 have f0:=fr.2 0
 have lt0:(0<(args.length:Int))=True:=eq_true (by omega)
 obtain⟨x0,hx0⟩: ∃x0,args[0]? =some x0:=⟨_,List.getElem?_eq_getElem (by omega)⟩
 obtain⟨s0,hs0⟩: ∃s0,rs[0]? =some s0:=⟨_,List.getElem?_eq_getElem (by omega)⟩
 obtain⟨bk,off,cs,ty,fr0,hp0,hbk,hcr,hcc⟩:=hS.at hs0
 subst hp0
 have hall: ∀(i:Nat) (s:Xr),rs[i]? =some s→DW (some (.cells cs ty fr0)) (off+i*5) 5=some (Ba s).toArray:=by
  intro i s hi
  obtain⟨bk',off',cs',ty',fr0',hp0',hbk',hcr',hcc'⟩:=hS.at hi
  cases hp0'
  rw[hbk]at hbk'
  cases hbk'
  exact hcr'
 have hB:Bf 15 nm tx n (tL args)=Nt 4 x0++[32,105,110,32,40]++M4 (tL (args.drop 1))++[41]:=by
  have e1:tL (args.drop 1)=(tL args).drop 1:=by rw[Fp,Fp,List.map_drop]
  rw[e1,←La (args:=args) (i:=0) 4 hx0]
  rfl
 rw[hB]at hsz⊢
 simp only[List.length_append,List.length_cons,List.length_nil]at hsz
 have hbkE:=dE.right _ _ hbk
 obtain⟨q1,q2⟩:=AU f0 hbkE
 simp only[Ba,Nat.zero_mul,Nat.add_zero]at hcr
 simp only[AF,↓AE,simprocAttr,lt0,hbkE,hcr,q1]
 have dst_:True:=(by simp[]);generalize ν 0=n1 at dst_  f0 q1 q2⊢
 clear fr
 refine VT (Y:=[(n1,_)]) (hA 0 x0 s0 4 hx0 hs0 E acc hE dE (by omega)) (Dis.one f0).symm ?_
 intro E1 hE1 dE1 dYE1
 simp only[List.cons_append,List.nil_append]
 intro ν fr
 simp only[AF,↓AE,simprocAttr]
 clear fr
 refine Rn (Y:=[(n1,_)]) (Dl E1 b _ [32,105,110,32,40] hE1 (by simp) (by simp;omega)) dE1 dYE1 ?_
 intro E2 hE2 dE2 dYE2
 simp only[List.cons_append,List.nil_append]
 intro ν fr
 have c1:(1≤(args.length:Int))=True:=eq_true (by omega)
 have c2:((args.length:Int)≤(cap:Int))=True:=eq_true (by omega)
 have c3:(cap=1)=False:=eq_false (by omega)
 simp only[AF,↓AE,simprocAttr,c1,c2,c3]
 clear fr c1 c2 c3 hx0 hs0 hcr hbkE hE dE
 generalize hrest:args.drop 1=rest at hsz⊢
 have hrl:rest.length=args.length - 1:=by rw[←hrest];simp
 have hr: ∀(i:Nat) (x:Xs),rest[i]? =some x→args[i+1]? =some x:=fun i x h=>by rw[←hrest,List.getElem?_drop]at h;rw[←h];congr 1;omega
 rw[←hrl]
 obtain⟨e,l,E',he,hd,hle,hE',dE',dY'⟩: ∃(e:Nat) (l:List Xs) (E':AH),e=0∧l=rest.drop e∧e≤rest.length∧ED E' b (acc++Nt 4 x0++[32,105,110,32,40]++M4 (tL (rest.take e)))∧Dis E' A∧Dis (E'++A) [(n1,Obj.cells #[.int .i64 op,.string nm,.string tx,.int .i64 n,.slice (some ⟨bk,off,none⟩) args.length cap] 60)]∧E'=E2:=⟨0,_,E2,rfl,rfl,by omega,by simpa[tL,M4]using hE2,dE2,dYE2,rfl⟩
 obtain⟨dY',hEE⟩:=dY'
 rw[show(18,some (Value.int .i64 0))=(18,some (Value.int .i64 (e:Int))) by rw[he];rfl]
 refine AR.at (A:=(n1,Obj.cells #[.int .i64 op,.string nm,.string tx,.int .i64 n,.slice (some ⟨bk,off,none⟩) args.length cap] 60)::(E'++A)) (by rw[hEE];exact SubA.refl _) ?_
 clear he hEE hE2 dE2 dYE2 hE1 dE1 dYE1 f0
 have hlenle: ∀e,(M4 (tL (rest.take e))).length≤(M4 (tL rest)).length:=fun e=>by
  rw[Fp,Fp,List.map_take]
  generalize rest.map (fun x=>(opO x,tX x))=L
  cases L with
  |nil=>simp
  | cons q L=>
   cases e with
   |zero=>simp[M4]
   | succ e=>
    simp only[List.take_succ_cons,M4,List.length_append]
    have:(aN (L.take e)).length≤(aN L).length:=by
     unfold aN
     have h:=List.take_append_drop e L
     conv=>rhs;rw[←h,List.flatMap_append,List.length_append]
     omega
    omega
 induction l generalizing e E' with
 |nil=>
  obtain⟨hn1,hn2⟩:=drop_nil hd hle
  rw[hn2]at hE'
  have lt:((e:Int)<(rest.length:Int))=False:=eq_false (by omega)
  refine AR.intro (by kernel_rfl) ?_
  intro ν fr
  simp only[AF,↓AE,simprocAttr,lt]
  clear fr
  refine Rn (Y:=[(n1,_)]) (LA E' b _ 41 hE' (by simp only[List.length_append,List.length_cons,List.length_nil];omega)) dE' dY' ?_
  intro E3 hE3 dE3 dYE3
  simp only[List.cons_append,List.nil_append]
  intro ν fr
  simp only[AF,↓AE,simprocAttr]
  exact⟨rfl,E3,by simpa using hE3,dE3,SubA.fresh (dYE3 n1 (by simp[Vm.AA])) (SubA.refl _)⟩
 | cons x l ih=>
  obtain⟨ha,hlt,hd',htk⟩:=Be hd
  have lt:((e:Int)<(rest.length:Int))=True:=eq_true (by omega)
  have li:((e:Int)<0)=False:=eq_false (by omega)
  have we:IntKind.i64.wrap ((e:Int)+1)=((e+1:Nat):Int):=by rw[AW (by omega) (by omega)];omega
  have hx1:=hr e x ha
  obtain⟨s,hs⟩: ∃s,rs[e+1]? =some s:=⟨_,List.getElem?_eq_getElem (by omega)⟩
  have hc1:=hall (e+1) s hs
  have hc2:DW (some (.cells cs ty fr0)) (off+5+e*5) 5=some (Ba s).toArray:=by rw[show off+5+e*5=off+(e+1)*5 by omega];exact hc1
  simp only[Ba]at hc2
  have hbkE:=dE'.right _ _ hbk
  have hle1:=hlenle (e+1)
  have hle0:=hlenle e
  have hpush:M4 (tL (rest.take (e+1)))=if e=0 then Nt 4 x else M4 (tL (rest.take e))++[44,32]++Nt 4 x:=by
   rw[htk,Fp,List.map_append,←Fp]
   rw[show [x].map (fun x=>(opO x,tX x))=[(opO x,tX x)] from rfl,aK]
   have:(tL (rest.take e)).length=e:=by rw[Fp];simp;omega
   rw[this]
   rfl
  rw[hpush]at hle1
  refine AR.intro (by kernel_rfl) ?_
  intro ν fr;have nuE:=fr.m1 rfl
  have f5:=fr.2 0
  by_cases he0:e=0
  ·have gt:(0<(e:Int))=False:=eq_false (by omega)
   rw[if_pos he0]at hle1 hpush
   have hE0:=hE'
   rw[show rest.take e=[] by rw[he0];rfl]at hE0
   simp only[tL,M4,List.append_nil]at hE0
   simp only[AF,↓AE,simprocAttr,lt,hbkE,hc2,q1,gt]
   have dst_:((ν 0=n1)=False)∧((n1=ν 0)=False):=(by simp[nuE]);generalize ν 0=n5 at dst_  f5⊢
   clear nuE fr
   have e51:n5≠n1:=fun h=>by rw[h]at f5;simp[Vm.AA]at f5
   have g5:Vm.AA (E'++A) n5=none:=by simpa[Vm.AA,e51.symm]using f5
   have g1:=dY' n1 (by simp[Vm.AA])
   have d51:=dst_
   refine VT (Y:=[(n5,_),(n1,_)]) (hA (e+1) x s 4 hx1 hs E' _ hE0 dE' (by simp only[List.length_append,List.length_cons,List.length_nil];omega)) (dis2 g5 g1) ?_
   intro E3 hE3 dE3 dYE3
   simp only[List.cons_append,List.nil_append]
   intro ν fr;have nuE:=fr.m2 rfl
   simp only[AF,↓AE,simprocAttr,we]
   have k5:=dYE3 n5 (by simp[Vm.AA])
   have k1:=dYE3 n1 (by simp[Vm.AA,d51])
   exact AR.weak (ih (e+1) E3 hd' (by omega) (by rw[hpush];simpa using hE3) dE3 (Dis.one k1).symm) (by simp[Ah,AO]) (SubA.fresh (AJ (eq_false e51.symm) k5) (SubA.refl _))
  ·have gt:(0<(e:Int))=True:=eq_true (by omega)
   simp only[if_neg he0,List.length_append,List.length_cons,List.length_nil]at hle1
   rw[if_neg he0]at hpush
   simp only[AF,↓AE,simprocAttr,lt,hbkE,hc2,q1,gt]
   have dst_:((ν 0=n1)=False)∧((n1=ν 0)=False):=(by simp[nuE]);generalize ν 0=n5 at dst_  f5⊢
   clear nuE fr
   have e51:n5≠n1:=fun h=>by rw[h]at f5;simp[Vm.AA]at f5
   have g5:Vm.AA (E'++A) n5=none:=by simpa[Vm.AA,e51.symm]using f5
   have g1:=dY' n1 (by simp[Vm.AA])
   have d51:=dst_
   refine Rn (Y:=[(n5,_),(n1,_)]) (Dl E' b _ [44,32] hE' (by simp) (by simp only[List.length_append,List.length_cons,List.length_nil];omega)) dE' (dis2 g5 g1) ?_
   intro E4 hE4 dE4 dYE4
   simp only[List.cons_append,List.nil_append]
   intro ν fr
   simp only[AF,↓AE,simprocAttr]
   clear fr
   refine VT (Y:=[(n5,_),(n1,_)]) (hA (e+1) x s 4 hx1 hs E4 _ hE4 dE4 (by simp only[List.length_append,List.length_cons,List.length_nil];omega)) dYE4 ?_
   intro E3 hE3 dE3 dYE3
   simp only[List.cons_append,List.nil_append]
   intro ν fr
   simp only[AF,↓AE,simprocAttr,we]
   have k5:=dYE3 n5 (by simp[Vm.AA])
   have k1:=dYE3 n1 (by simp[Vm.AA,d51])
   exact AR.weak (ih (e+1) E3 hd' (by omega) (by rw[hpush];simpa using hE3) dE3 (Dis.one k1).symm) (by simp[Ah,AO]) (SubA.fresh (AJ (eq_false e51.symm) k5) (SubA.refl _))
set_option maxHeartbeats 4000000
set_option maxRecDepth 20000
theorem Ts{op n:Int}{nm tx:ByteArray}{args:List Xs}(h:wX (.mk op nm tx n args)=true):Cy op nm tx n args.length=true∧ ∀x∈args,wX x=true:=by
 rw[wX,PW]at h
 simp only[Bool.and_eq_true,List.all_eq_true]at h
 exact h
theorem rz{A:AH}{t:Xs}{r:Xr}(h:ExR A t r):wX t=true→SzX t:=by
 induction h with
 | @mk op n nm tx args p cap rs h0 h0' h1 h2 h3 ih=>
  intro hw
  obtain⟨hF,hall⟩:=Ts hw
  obtain⟨z1,z2⟩:=LH hF
  refine .mk (by omega) (by omega) fun x hx=> ?_
  obtain⟨k,hk⟩:=List.getElem?_of_mem hx
  have hlt:=(List.getElem?_eq_some_iff.1 hk).1
  exact ih k x _ hk (List.getElem?_eq_getElem (by omega)) (hall x hx)
theorem ox{A:AH}(hT:Dv A)(b:Nat){t:Xs}{r:Xr}(h:ExR A t r):wX t=true→ ∀k:Int,pF 73 [Bt r,.int .i64 k] A b (Nt k t):=by
 induction h with
 | @mk op n nm tx args p cap rs h0 h0' h1 h2 h3 ih=>
  intro hw k E acc hE dE hl
  obtain⟨hF,hall⟩:=Ts hw
  have hA:sj A b args rs:=fun i x s k hx hs=>ih i x s hx hs (hall x (List.mem_of_getElem? hx)) k
  have hI:op=15→pF 135 [.agg #[.int .i64 op,.string nm,.string tx,.int .i64 n,.slice p args.length cap]] A b (Bf 15 nm tx n (tL args)):=fun h15 E acc hE dE hl=>by
   have h2':2≤args.length:=by
    unfold Cy at hF
    subst h15
    simp at hF
    exact hF.2
   exact sC A E b acc op n nm tx args p cap rs h0 h0' h1 h2 h2' hA hE dE hl
  have hb:pF 105 [Bt ⟨op,nm,tx,n,p,args.length,cap⟩] A b (tX (.mk op nm tx n args)):=fun E acc hE dE hl=>by
   rw[tX]at hl⊢
   exact r7 A E hT b acc op n nm tx args p cap rs h0 h1 h2 hF hA hI hE dE hl
  exact sJ A E b acc ⟨op,nm,tx,n,p,args.length,cap⟩ (.mk op nm tx n args) k rfl hb hE dE hl
theorem Ok(op:Int):1≤Ga op∧Ga op≤6:=by unfold Ga;repeat' split;all_goals omega
theorem Un(t:Xs):Nt 1 t=tX t:=by unfold Nt Ur;rw[if_pos (Ok _).1]
def Ra(t:Xs):List UInt8:=if wX t=true then tX t else []
theorem qB(A:AH)(hT:Dv A)(t:Xs)(r:Xr)(h:ExR A t r)(hz:SzX t)(hl:(Ra t).length≤1000000000):AK Tryz.prog 38 #[.agg #[.int .i64 r.op,.string r.nm,.string r.tx,.int .i64 r.n,.slice r.p r.len r.cap]] A (fun u_ A_=>u_=.string (bs (Ra t))∧SubA A A_):=by
 refine AC ⟨Tryz.prog,38,Tryz.f38,10,[0,1,2,3],⟨[73,18],none⟩,[],_⟩ rfl (args:=[_]) Tryz.func38 rfl (by kernel_rfl) Tryz.ntmps38 (by simp) (by kernel_rfl) ?_
 intro ν fr;have nuE:=fr.nu
 have f0:=fr.2 0
 have iv:=fun o=>uk h hz ((ν 0,o)::A) (SubA.fresh f0 (SubA.refl _))
 simp only[Bt,Ba]at iv
 cases hw:wX t with
 |false=>
  rw[hw]at iv
  have he:Ra t=[]:=by unfold Ra;rw[hw];rfl
  rw[he]
  simp only[AF,↓AE,simprocAttr,nuE,fr.2,iv]
  rfl
 |true=>
  rw[hw]at iv
  have he:Ra t=tX t:=by unfold Ra;rw[hw];rfl
  rw[he]at hl⊢
  simp only[AF,↓AE,simprocAttr,nuE,fr.2,iv]
  have g1:=fr.2 1
  have n01:(ν 1=ν 0)=False:=by simp[nuE]
  have dst_:((ν 0=ν 1)=False)∧((ν 1=ν 0)=False):=(by simp[nuE]);generalize ν 0=n1 at dst_  f0 g1 n01 ⊢;generalize ν 1=n3 at dst_  f0 g1 n01⊢
  clear nuE fr iv
  have e13:n1≠n3:=fun h=>by rw[h]at n01;simp at n01
  have f3:Vm.AA ((n1,Obj.cells #[.int .i64 r.op,.string r.nm,.string r.tx,.int .i64 r.n,.slice r.p r.len r.cap] 60)::A) n3=none:=AJ (eq_false e13) g1
  refine VT (Y:=[]) (E:=[(n3,_)]) (A:=(n1,Obj.cells #[.int .i64 r.op,.string r.nm,.string r.tx,.int .i64 r.n,.slice r.p r.len r.cap] 60)::A) (ox (hT.mono (SubA.fresh f0 (SubA.refl _))) n3 (h.mono (SubA.fresh f0 (SubA.refl _))) hw 1 _ [] (ED.new n3) (Dis.one f3) (by rw[Un];simpa using hl)) (Dis.nil _).symm ?_
  intro E' hE' dE' _
  rw[Un,List.nil_append]at hE'
  simp only[List.nil_append]
  intro ν fr
  simp only[AF,↓AE,simprocAttr]
  refine AK.useX (Pl E' n3 _ hE' hl) (SubA.left E' _) A (SubA.trans (SubA.fresh f0 (SubA.refl _)) dE'.right) (Dis.subr dE' (SubA.fresh f0 (SubA.refl _))) ?_
  rintro v D ⟨rfl,hdom⟩ dD
  refine⟨[],SubA.nil _, ?_⟩
  rw[List.nil_append]
  clear fr
  intro ν fr
  simp only[AF,↓AE,simprocAttr]
theorem qC(A:AH)(hT:Dv A)(t:Xs)(r:Xr)(h:ExR A t r)(hz:SzX t)(hl:(Ra t).length≤1000000000)(B_:AH)(hB_:SubA A B_):Ag Tryz.prog 38 #[.agg #[.int .i64 r.op,.string r.nm,.string r.tx,.int .i64 r.n,.slice r.p r.len r.cap]] B_=some (.string (bs (Ra t))):=AX (Aj (by kernel_rfl) (qB A hT t r h hz hl) hB_)
end Go.Proofs.YtgmfcdeknaeikaaGreatDoor
