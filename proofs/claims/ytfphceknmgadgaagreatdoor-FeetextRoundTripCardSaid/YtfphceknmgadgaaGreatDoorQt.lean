/-
The reference writes fee rules; the laws.
Conditions: none.
-/
import Derived.Test.YtfphceknmgadgaaGreatDoorQr
import Derived.Test.YtfphceknmgadgaaGreatDoorQl
import Derived.Test.YtfphceknmgadgaaGreatDoorVmAF
import Derived.Test.YtfphceknmgadgaaGreatDoorQa
set_option linter.unusedSimpArgs false
set_option linter.unusedVariables false
namespace Go.Proofs.YtfphceknmgadgaaGreatDoor
open Go.Vm
set_option maxHeartbeats 4000000
set_option maxRecDepth 20000
theorem C1:type_of% (An @BR (An @Be (An @Bd (An @BF (An @BQ (An @Bf (An @CG (An @BX (An @CX (An @Cn (An @CZ (An @Cp (An @DB (An @Cq (An @CW (An @CD (An @CC (An @Co (An @Bw (An @CE (An @CY (An @CF (An @CH (An @AW (An @AP (An @Av (An @Aw (An @Am (An @BN (An @Ar (An @A7 (An @A8 (An @BA (An @BB (An @BD (An @BH (An @BK (An @Cy (An @AU (An @AR (An @Ab (An @Ac (An @Aq (An @Bh (An @CS (An @Eu (An @CR (An @CU (An @Bn (An @Bu (An @CT (An @CV (An @DN (An @De @Dj)))))))))))))))))))))))))))))))))))))))))))))))))))))):=⟨@BR,@Be,@Bd,@BF,@BQ,@Bf,@CG,@BX,@CX,@Cn,@CZ,@Cp,@DB,@Cq,@CW,@CD,@CC,@Co,@Bw,@CE,@CY,@CF,@CH,@AW,@AP,@Av,@Aw,@Am,@BN,@Ar,@A7,@A8,@BA,@BB,@BD,@BH,@BK,@Cy,@AU,@AR,@Ab,@Ac,@Aq,@Bh,@CS,@Eu,@CR,@CU,@Bn,@Bu,@CT,@CV,@DN,@De,@Dj⟩
theorem z10:(ByteArray.mk #[48,49,50,51,52,53,54,55,56,57]).size=10:=rfl
theorem vB(n:Nat)(hn:n≤9223372036854775807)(ih: ∀m:Nat,m<n→ ∀B:AH,Bi Tryz.prog 38 #[.int .i64 (m:Int)] B=some (.string (bs (Lib.decDigits m)))):Ak Tryz.prog 38 #[.int .i64 (n:Int)] [] (fun u_ _=>u_=.string (bs (Lib.decDigits n))):=by
 refine AQ ⟨Tryz.prog,38,Tryz.f38,19,[0,2],⟨[],none⟩,[(3,.q false)],_⟩ rfl (args:=[_]) Tryz.func38 rfl (by kernel_rfl) Tryz.ntmps38 (by simp) (by kernel_rfl) ?_
 intro ν fr;have nuE:=fr.nu
 have d1:IntKind.i64.wrap ((n:Int).tdiv 10)=((n / 10:Nat):Int):=by rw[Int.tdiv_eq_ediv_of_nonneg (by omega),Az (by omega) (by omega)];omega
 have m1:(n:Int).tmod 10=((n % 10:Nat):Int):=by rw[Int.tmod_eq_emod_of_nonneg (by omega)];omega
 have w1:IntKind.i64.wrap (((n % 10:Nat):Int)+1)=((n % 10+1:Nat):Int):=by rw[Az (by omega) (by omega)];omega
 have w2:IntKind.i64.wrap ((n:Int)+1)=((n+1:Nat):Int)∨10≤n:=by
  by_cases h:n<10
  ·left;rw[Az (by omega) (by omega)];omega
  ·right;omega
 by_cases h:n<10
 ·have lt:((n:Int)<10)=True:=eq_true (by omega)
  have w2':=w2.resolve_right (by omega)
  have e:=Wk n h
  have c1:(0≤(n:Int))=True:=eq_true (by omega)
  have c2:(((n+1:Nat):Int)≤10)=True:=eq_true (by omega)
  have c3:((n:Int)≤((n+1:Nat):Int))=True:=eq_true (by omega)
  simp (maxDischargeDepth:=16) only[Af,↓Ae,simprocAttr,forall_const,nuE,fr.2,C1,↓AK,↓AJ,lt,w2',e,c1,c2,c3]
  rw[Lib.decDigits_one h]
  exact⟨by rw[z10];omega,rfl⟩
 ·have lt:((n:Int)<10)=False:=eq_false (by omega)
  have iv:=ih (n / 10) (by omega)
  have e:=Wk (n % 10) (by omega)
  have c1:(0≤((n % 10:Nat):Int))=True:=eq_true (by omega)
  have c2:(((n % 10+1:Nat):Int)≤10)=True:=eq_true (by omega)
  have c3:(((n % 10:Nat):Int)≤((n % 10+1:Nat):Int))=True:=eq_true (by omega)
  simp (maxDischargeDepth:=16) only[Af,↓Ae,simprocAttr,forall_const,nuE,fr.2,C1,↓AK,↓AJ,lt,d1,m1,w1,iv,e,c1,c2,c3]
  have l20:=D1 (n:=((n / 10:Nat):Int)) (by omega) (by omega)
  rw[JE]at l20
  have hdd:Lib.decDigits n=Lib.decDigits (n / 10)++[UInt8.ofNat (48+n % 10)]:=by rw[Lib.decDigits,dif_neg h]
  refine⟨by rw[z10];omega,by rw[Ao,Ao,List.length_cons,List.length_nil];omega, ?_⟩
  rw[C6,hdd]
theorem Bk(n:Nat)(hn:n≤9223372036854775807)(ih: ∀m:Nat,m<n→ ∀B:AH,Bi Tryz.prog 38 #[.int .i64 (m:Int)] B=some (.string (bs (Lib.decDigits m))))(A_:AH):Bi Tryz.prog 38 #[.int .i64 (n:Int)] A_=some (.string (bs (Lib.decDigits n))):=BP (B7 (by kernel_rfl) (vB n hn ih))
theorem oO(n:Nat):n≤9223372036854775807→ ∀B:AH,Bi Tryz.prog 38 #[.int .i64 (n:Int)] B=some (.string (bs (Lib.decDigits n))):=by
 induction n using Nat.strongRecOn with
 |ind n ih=>exact fun hn B=>Bk n hn (fun m hm B=>ih m hm (by omega) B) B
theorem bz{n:Int}(h0:0≤n)(h1:n≤9223372036854775807)(B:AH):Bi Tryz.prog 38 #[.int .i64 n] B=some (.string (bs (Lib.itoa n))):=by
 obtain⟨m,rfl⟩: ∃m:Nat,n=(m:Int):=⟨n.toNat,by omega⟩
 rw[JE]
 exact oO m (by omega) B
theorem rpcV_h(n:Int):Ak Tryz.prog 37 #[.int .i64 n] [] (fun u_ _=>u_=.string (bs (We n))):=by
 refine AQ ⟨Tryz.prog,37,Tryz.f37,37,[0,2,3,4,5],⟨[],none⟩,[],_⟩ rfl (args:=[_]) Tryz.func37 rfl (by kernel_rfl) Tryz.ntmps37 (by simp) (by kernel_rfl) ?_
 intro ν fr;have nuE:=fr.nu
 by_cases h1:n<0
 ·have hr:We n=[]:=if_pos (.inl h1)
  rw[hr]
  simp (maxDischargeDepth:=16) only[Af,↓Ae,simprocAttr,forall_const,nuE,fr.2,C1,↓AK,↓AJ,Bk,eq_true h1]
  rfl
 by_cases h2:10000<n
 ·have hr:We n=[]:=if_pos (.inr h2)
  rw[hr]
  simp (maxDischargeDepth:=16) only[Af,↓Ae,simprocAttr,forall_const,nuE,fr.2,C1,↓AK,↓AJ,Bk,eq_false h1,eq_true h2]
  rfl
 have hr:We n=Jh n:=if_neg (by omega)
 rw[hr]
 have d1:IntKind.i64.wrap (n.tdiv 100)=n / 100:=by rw[Int.tdiv_eq_ediv_of_nonneg (by omega),Az (by omega) (by omega)]
 have d2:IntKind.i64.wrap (n.tdiv 10)=n / 10:=by rw[Int.tdiv_eq_ediv_of_nonneg (by omega),Az (by omega) (by omega)]
 have m1:(n / 10).tmod 10=n % 100 / 10:=by rw[Int.tmod_eq_emod_of_nonneg (by omega)];omega
 have m2:n.tmod 10=n % 10:=Int.tmod_eq_emod_of_nonneg (by omega)
 have i1:=bz (n:=n / 100) (by omega) (by omega)
 have i2:=bz (n:=n % 100 / 10) (by omega) (by omega)
 have i3:=bz (n:=n % 10) (by omega) (by omega)
 have l1:=D1 (n:=n / 100) (by omega) (by omega)
 have l2:=D1 (n:=n % 100 / 10) (by omega) (by omega)
 have l3:=D1 (n:=n % 10) (by omega) (by omega)
 have ws:IntKind.i64.wrap (n % 100 / 10+n % 10)=n % 100 / 10+n % 10:=Az (by omega) (by omega)
 unfold Jh
 by_cases h3:n % 100=0
 ·have g1:(0<n % 100 / 10+n % 10)=False:=eq_false (by omega)
  have g2:(0<n % 10)=False:=eq_false (by omega)
  simp (maxDischargeDepth:=16) only[Af,↓Ae,simprocAttr,forall_const,nuE,fr.2,C1,↓AK,↓AJ,Bk,eq_false h1,eq_false h2,d1,d2,m1,m2,i1,ws,g1,g2]
  rw[if_pos h3,show ByteArray.mk #[37]=bs [37] from rfl]
  simp only[C6,Ao,List.length_append,List.length_cons,List.length_nil]
  exact⟨by omega,by simp⟩
 rw[if_neg h3]
 have g1:(0<n % 100 / 10+n % 10)=True:=eq_true (by omega)
 by_cases h4:n % 10=0
 ·have g2:(0<n % 10)=False:=eq_false (by omega)
  simp (maxDischargeDepth:=16) only[Af,↓Ae,simprocAttr,forall_const,nuE,fr.2,C1,↓AK,↓AJ,Bk,eq_false h1,eq_false h2,d1,d2,m1,m2,i1,i2,ws,g1,g2]
  rw[if_pos h4,show ByteArray.mk #[37]=bs [37] from rfl,show ByteArray.mk #[46]=bs [46] from rfl]
  simp only[C6,Ao,List.length_append,List.length_cons,List.length_nil]
  exact⟨by omega,by omega,by omega,by simp⟩
 have g2:(0<n % 10)=True:=eq_true (by omega)
 simp (maxDischargeDepth:=16) only[Af,↓Ae,simprocAttr,forall_const,nuE,fr.2,C1,↓AK,↓AJ,Bk,eq_false h1,eq_false h2,d1,d2,m1,m2,i1,i2,i3,ws,g1,g2]
 rw[if_neg h4,show ByteArray.mk #[37]=bs [37] from rfl,show ByteArray.mk #[46]=bs [46] from rfl]
 simp only[C6,Ao,List.length_append,List.length_cons,List.length_nil]
 exact⟨by omega,by omega,by omega,by omega,by simp⟩
theorem By(n:Int)(A_:AH):Bi Tryz.prog 37 #[.int .i64 n] A_=some (.string (bs (We n))):=BP (B7 (by kernel_rfl) (rpcV_h n))
theorem uy(n:Int):Ak Tryz.prog 40 #[.int .i64 n] [] (fun u_ _=>u_=.bool (Hj n)):=by
 refine AQ ⟨Tryz.prog,40,Tryz.f40,9,[0,2],⟨[],none⟩,[],_⟩ rfl (args:=[_]) Tryz.func40 rfl (by kernel_rfl) Tryz.ntmps40 (by simp) (by kernel_rfl) ?_
 intro ν fr;have nuE:=fr.nu
 unfold Hj
 by_cases h0:0≤n
 ·simp (maxDischargeDepth:=16) only[Af,↓Ae,simprocAttr,forall_const,nuE,fr.2,C1,↓AK,↓AJ,Bk,By,eq_true h0]
 ·simp (maxDischargeDepth:=16) only[Af,↓Ae,simprocAttr,forall_const,nuE,fr.2,C1,↓AK,↓AJ,Bk,By,eq_false h0]
theorem B6(n:Int)(A_:AH):Bi Tryz.prog 40 #[.int .i64 n] A_=some (.bool (Hj n)):=BP (B7 (by kernel_rfl) (uy n))
def Wm:List ByteArray:=[⟨#[114,117,108,101]⟩,⟨#[119,104,101,110]⟩,⟨#[115,99,111,114,101]⟩,⟨#[112,97,115,115]⟩,⟨#[114,101,102,101,114]⟩,⟨#[100,101,99,108,105,110,101]⟩,⟨#[97,110,100]⟩,⟨#[111,114]⟩,⟨#[110,111,116]⟩,⟨#[105,110]⟩,⟨#[99,111,117,110,116]⟩,⟨#[115,117,109]⟩,⟨#[102,101,101]⟩,⟨#[109,105,110]⟩,⟨#[109,97,120]⟩]
theorem reF_W(s:ByteArray):mS s=Wm.any fun w=>decide (s.toList=w.toList):=by
 simp only[mS,Ju,Wm,G9,Gl,Gp,List.any_cons,List.any_nil,Bool.or_false,Bool.or_assoc]
 rfl
theorem u9:C4 Tryz.prog 99 15 [(0,.string ⟨#[114,117,108,101]⟩),(1,.string ⟨#[119,104,101,110]⟩),(2,.string ⟨#[115,99,111,114,101]⟩),(3,.string ⟨#[112,97,115,115]⟩),(4,.string ⟨#[114,101,102,101,114]⟩),(5,.string ⟨#[100,101,99,108,105,110,101]⟩),(6,.string ⟨#[97,110,100]⟩),(7,.string ⟨#[111,114]⟩),(8,.string ⟨#[110,111,116]⟩),(9,.string ⟨#[105,110]⟩),(10,.string ⟨#[99,111,117,110,116]⟩),(11,.string ⟨#[115,117,109]⟩),(12,.string ⟨#[102,101,101]⟩),(13,.string ⟨#[109,105,110]⟩),(14,.string ⟨#[109,97,120]⟩)]=some (9,#[.string ⟨#[114,117,108,101]⟩,.string ⟨#[119,104,101,110]⟩,.string ⟨#[115,99,111,114,101]⟩,.string ⟨#[112,97,115,115]⟩,.string ⟨#[114,101,102,101,114]⟩,.string ⟨#[100,101,99,108,105,110,101]⟩,.string ⟨#[97,110,100]⟩,.string ⟨#[111,114]⟩,.string ⟨#[110,111,116]⟩,.string ⟨#[105,110]⟩,.string ⟨#[99,111,117,110,116]⟩,.string ⟨#[115,117,109]⟩,.string ⟨#[102,101,101]⟩,.string ⟨#[109,105,110]⟩,.string ⟨#[109,97,120]⟩]):=by kernel_rfl
theorem oY(s:ByteArray):Ak Tryz.prog 39 #[.string s] [] (fun u_ _=>u_=.bool (Gn s)):=by
 refine AQ ⟨Tryz.prog,39,Tryz.f39,20,[0,2,3,4],⟨[],none⟩,[],_⟩ rfl (args:=[_]) Tryz.func39 rfl (by kernel_rfl) Tryz.ntmps39 (by simp) (by kernel_rfl) ?_
 intro ν fr;have nuE:=fr.nu
 have f0:=fr.2 0
 simp (maxDischargeDepth:=16) only[Af,↓Ae,simprocAttr,forall_const,nuE,fr.2,C1,↓AK,↓AJ,Bk,By,B6,u9]
 obtain⟨cs,hcs⟩: ∃cs:Array Value,#[.string ⟨#[114,117,108,101]⟩,.string ⟨#[119,104,101,110]⟩,.string ⟨#[115,99,111,114,101]⟩,.string ⟨#[112,97,115,115]⟩,.string ⟨#[114,101,102,101,114]⟩,.string ⟨#[100,101,99,108,105,110,101]⟩,.string ⟨#[97,110,100]⟩,.string ⟨#[111,114]⟩,.string ⟨#[110,111,116]⟩,.string ⟨#[105,110]⟩,.string ⟨#[99,111,117,110,116]⟩,.string ⟨#[115,117,109]⟩,.string ⟨#[102,101,101]⟩,.string ⟨#[109,105,110]⟩,.string ⟨#[109,97,120]⟩]=cs:=⟨_,rfl⟩
 rw[hcs]
 have hc: ∀(i:Nat) (w:ByteArray),Wm[i]? =some w→cs[i]? =some (.string w):=fun i w h=>by
  have e:cs=(Wm.map Value.string).toArray:=by rw[←hcs];rfl
  rw[e,List.getElem?_toArray,List.getElem?_map,h];rfl
 clear hcs
 have dst_:True:=(by simp[nuE]);generalize ν 0=n1 at dst_  f0⊢
 clear nuE fr
 obtain⟨e,l,he,hd,hle,hx⟩: ∃(e:Nat) (l:List ByteArray),e=0∧l=Wm.drop e∧e≤Wm.length∧Gn s=(!(l.any fun w=>decide (s.toList=w.toList))&&DS s):=⟨0,_,rfl,rfl,by omega,by unfold Gn;rw[reF_W];rfl⟩
 rw[show(4,some (Value.int .i64 0))=(4,some (Value.int .i64 (e:Int))) by rw[he];rfl,hx]
 clear he hx
 have h15:Wm.length=15:=rfl
 induction l generalizing e with
 |nil=>
  obtain⟨hn1,hn2⟩:=drop_nil hd hle
  have lt:((e:Int)<15)=False:=eq_false (by omega)
  refine At.intro (by kernel_rfl) ?_
  intro ν fr;have nuE:=And.intro (fr.mem (b:=n1) (by simp)) (fr.nu)
  simp (maxDischargeDepth:=16) only[Af,↓Ae,simprocAttr,forall_const,nuE,fr.2,C1,↓AK,↓AJ,Bk,By,B6,lt]
  simp
 | cons w l ihl=>
  obtain⟨ha,hlt,hd',htk⟩:=DH hd
  have lt:((e:Int)<15)=True:=eq_true (by omega)
  have li:((e:Int)<0)=False:=eq_false (by omega)
  have we:IntKind.i64.wrap ((e:Int)+1)=((e+1:Nat):Int):=by rw[Az (by omega) (by omega)];omega
  have hce:cs[e*1]? =some (.string w):=by rw[Nat.mul_one];exact hc e w ha
  refine At.intro (by kernel_rfl) ?_
  intro ν fr;have nuE:=And.intro (fr.mem (b:=n1) (by simp)) (fr.nu)
  by_cases hw:w.toList=s.toList
  ·simp (maxDischargeDepth:=16) only[Af,↓Ae,simprocAttr,forall_const,nuE,fr.2,C1,↓AK,↓AJ,Bk,By,B6,lt,li,hce,eq_true hw]
   simp[hw]
  ·have hw': ¬s.toList=w.toList:=fun e=>hw e.symm
   simp (maxDischargeDepth:=16) only[Af,↓Ae,simprocAttr,forall_const,nuE,fr.2,C1,↓AK,↓AJ,Bk,By,B6,lt,li,hce,eq_false hw,we]
   rw[List.any_cons,decide_eq_false hw',Bool.false_or]
   exact At.weak (ihl (e+1) hd' (by omega)) (by simp only[Bo,Ag,Nat.reduceEqDiff,↓reduceIte,reduceCtorEq,Nat.reduceAdd,and_self,and_true]) (SubA.refl _)
theorem Bm(s:ByteArray)(A_:AH):Bi Tryz.prog 39 #[.string s] A_=some (.bool (Gn s)):=BP (B7 (by kernel_rfl) (oY s))
end Go.Proofs.YtfphceknmgadgaaGreatDoor
namespace Go.Proofs.YtfphceknmgadgaaGreatDoor
open Go.Vm
set_option maxHeartbeats 4000000
set_option maxRecDepth 20000
theorem RQ(nm:ByteArray)(u:Fu)(l:List Fu):D4 nm (u::l)=(decide (u.nm.toList=nm.toList)||D4 nm l):=rfl
theorem vT(A:AH)(t:Xs)(r:Xr)(h:ExR A t r)(hz:SzX t)(hl:(JY t).length≤1000000000):Ak Tryz.prog 36 #[.agg #[.int .i64 r.op,.string r.nm,.string r.tx,.int .i64 r.n,.slice r.p r.len r.cap]] A (fun u_ A_=>u_=.string (bs (JY t))∧SubA A A_):=by
 refine AQ ⟨Tryz.prog,36,Tryz.f36,8,[0,1,2],⟨[],none⟩,[],_⟩ rfl (args:=[_]) Tryz.func36 rfl (by kernel_rfl) Tryz.ntmps36 (by simp) (by kernel_rfl) ?_
 intro ν fr;have nuE:=fr.nu
 have f0:=fr.2 0
 have iv:=fun o=>rwrX h hz ((ν 0,o)::A) (SubA.fresh f0 (SubA.refl _))
 simp only[EG,C8]at iv
 cases hw:wX t with
 |false=>
  rw[hw]at iv
  have he:JY t=[]:=by unfold JY;rw[hw];rfl
  rw[he]
  simp (maxDischargeDepth:=16) only[Af,↓Ae,simprocAttr,forall_const,nuE,fr.2,C1,↓AK,↓AJ,Bk,By,B6,Bm,iv]
  rfl
 |true=>
  rw[hw]at iv
  have he:JY t=tX t:=by unfold JY;rw[hw];rfl
  rw[he]at hl⊢
  have iv2:=fun o=>(rtxX h hw hl).2 ((ν 0,o)::A) (SubA.fresh f0 (SubA.refl _))
  simp only[EG,C8]at iv2
  simp (maxDischargeDepth:=16) only[Af,↓Ae,simprocAttr,forall_const,nuE,fr.2,C1,↓AK,↓AJ,Bk,By,B6,Bm,iv,iv2]
theorem el(A:AH)(t:Xs)(r:Xr)(h:ExR A t r)(hz:SzX t)(hl:(JY t).length≤1000000000)(B_:AH)(hB_:SubA A B_):Bi Tryz.prog 36 #[.agg #[.int .i64 r.op,.string r.nm,.string r.tx,.int .i64 r.n,.slice r.p r.len r.cap]] B_=some (.string (bs (JY t))):=BP (Ce (by kernel_rfl) (vT A t r h hz hl) hB_)
theorem uz(A:AH)(us:List Fu)(p:Option Addr)(cap:Nat)(hl:us.length≤140737488355328)(hR:Kb A us p)(hz: ∀u∈us,SzX u.w)(htl: ∀u∈us,(tX u.w).length≤1000000):Ak Tryz.prog 13 #[.slice p us.length cap] A (fun u_ A_=>u_=.bool (R8 us)∧SubA A A_):=by
 refine AQ ⟨Tryz.prog,13,Tryz.f13,66,[0,2,3,4,5],⟨[],none⟩,[(12,.q false)],_⟩ rfl (args:=[_]) Tryz.func13 rfl (by kernel_rfl) Tryz.ntmps13 (by simp) (by kernel_rfl) ?_
 intro ν fr;have nuE:=fr.nu
 obtain⟨rs,hrl,hS,hall⟩:=hR
 by_cases h64:us.length≤64
 rotate_left
 ·have g64:(64<(us.length:Int))=True:=eq_true (by omega)
  have hf:R8 us=false:=by unfold R8;simp[h64]
  rw[hf]
  simp (maxDischargeDepth:=16) only[Af,↓Ae,simprocAttr,forall_const,nuE,fr.2,C1,↓AK,↓AJ,Bk,By,B6,Bm,g64]
 have g64:(64<(us.length:Int))=False:=eq_false (by omega)
 simp (maxDischargeDepth:=16) only[Af,↓Ae,simprocAttr,forall_const,nuE,fr.2,C1,↓AK,↓AJ,Bk,By,B6,Bm,g64]
 clear nuE fr g64
 obtain⟨e,l,he,hd,hle,hx⟩: ∃(e:Nat) (l:List Fu),e=0∧l=us.drop e∧e≤us.length∧R8 us=HJ (us.take e) l:=⟨0,_,rfl,rfl,by omega,by simp[R8,h64]⟩
 rw[show(3,some (Value.int .i64 0))=(3,some (Value.int .i64 (e:Int))) by rw[he];rfl]
 clear he
 induction l generalizing e with
 |nil=>
  obtain⟨hn1,hn2⟩:=drop_nil hd hle
  have lt:((e:Int)<(us.length:Int))=False:=eq_false (by omega)
  refine At.intro (by kernel_rfl) ?_
  intro ν fr;have nuE:=fr.nu
  simp (maxDischargeDepth:=16) only[Af,↓Ae,simprocAttr,forall_const,nuE,fr.2,C1,↓AK,↓AJ,Bk,By,B6,Bm,lt]
  rw[hx];simp[HJ]
 | cons u l ihl=>
  obtain⟨ha,hlt,hd',htk⟩:=DH hd
  have lt:((e:Int)<(us.length:Int))=True:=eq_true (by omega)
  have li:((e:Int)<0)=False:=eq_false (by omega)
  have we:IntKind.i64.wrap ((e:Int)+1)=((e+1:Nat):Int):=by rw[Az (by omega) (by omega)];omega
  obtain⟨r,hr⟩: ∃r,rs[e]? =some r:=⟨_,List.getElem?_eq_getElem (by omega)⟩
  obtain⟨bk,off,cs,ty,fr0,hp0,hbk,hcr,hcc⟩:=hS.at hr
  subst hp0
  obtain⟨hr1,hrw,hr3,hr4,hr5,hr6⟩:=hall e u r ha hr
  simp only[G2,hr1,hr3,hr4,hr5,hr6]at hcr
  have hm:=List.mem_of_getElem? ha
  have hex:(JY u.w).length≤1000000000:=by
   have:=htl u hm
   unfold JY;split
   ·omega
   ·simp
  have bad:Gu (us.take e) u=false→R8 us=false:=fun h=>by rw[hx];simp[HJ,h]
  refine At.intro (by kernel_rfl) ?_
  intro ν fr;have nuE:=fr.nu
  have f6:=fr.2 0
  obtain⟨q1,q2⟩:=BE f6 hbk
  have iv:=fun o=>el A u.w r.w hrw (hz u hm) hex ((ν 0,o)::A) (SubA.fresh f6 (SubA.refl _))
  cases hn:Gn u.nm with
  |false=>
   simp (maxDischargeDepth:=16) only[Af,↓Ae,simprocAttr,forall_const,nuE,fr.2,C1,↓AK,↓AJ,Bk,By,B6,Bm,lt,li,hbk,q1,q2,hcr,hn]
   rw[bad (by simp[Gu,hn])]
  |true=>
  cases hw:wX u.w with
  |false=>
   have he:JY u.w=[]:=by unfold JY;rw[hw];rfl
   rw[he]at iv
   simp (maxDischargeDepth:=16) only[Af,↓Ae,simprocAttr,forall_const,nuE,fr.2,C1,↓AK,↓AJ,Bk,By,B6,Bm,lt,li,hbk,q1,q2,hcr,hn,iv,BS]
   rw[bad (by simp[Gu,Jb,hw])]
  |true=>
  have he:JY u.w=tX u.w:=by unfold JY;rw[hw];rfl
  rw[he]at iv
  by_cases hb:0≤u.bps∧u.bps≤10000
  rotate_left
  ·have hp:We u.bps=[]:=if_pos (by omega)
   simp (maxDischargeDepth:=16) only[Af,↓Ae,simprocAttr,forall_const,nuE,fr.2,C1,↓AK,↓AJ,Bk,By,B6,Bm,lt,li,hbk,q1,q2,hcr,hn,iv,BS,KL hw,hp]
   rw[bad (by simp[Gu,Jb];omega)]
  have hp:We u.bps=Jh u.bps:=if_neg (by omega)
  have hpn:(Jh u.bps=[])=False:=eq_false (gn _)
  cases a1:Hj u.fx with
  |false=>
   simp (maxDischargeDepth:=16) only[Af,↓Ae,simprocAttr,forall_const,nuE,fr.2,C1,↓AK,↓AJ,Bk,By,B6,Bm,lt,li,hbk,q1,q2,hcr,hn,iv,BS,KL hw,hp,hpn,a1]
   rw[bad (by simp[Gu,Jb,a1])]
  |true=>
  cases a2:Hj u.mn with
  |false=>
   simp (maxDischargeDepth:=16) only[Af,↓Ae,simprocAttr,forall_const,nuE,fr.2,C1,↓AK,↓AJ,Bk,By,B6,Bm,lt,li,hbk,q1,q2,hcr,hn,iv,BS,KL hw,hp,hpn,a1,a2]
   rw[bad (by simp[Gu,Jb,a2])]
  |true=>
  cases a3:Hj u.mx with
  |false=>
   simp (maxDischargeDepth:=16) only[Af,↓Ae,simprocAttr,forall_const,nuE,fr.2,C1,↓AK,↓AJ,Bk,By,B6,Bm,lt,li,hbk,q1,q2,hcr,hn,iv,BS,KL hw,hp,hpn,a1,a2,a3]
   rw[bad (by simp[Gu,Jb,a3])]
  |true=>
  have hokW:Jb u=true:=by simp[Jb,hw,hb.1,hb.2,a1,a2,a3]
  simp (maxDischargeDepth:=16) only[Af,↓Ae,simprocAttr,forall_const,nuE,fr.2,C1,↓AK,↓AJ,Bk,By,B6,Bm,lt,li,hbk,q1,q2,hcr,hn,iv,BS,KL hw,hp,hpn,a1,a2,a3]
  have dst_:True:=(by simp[nuE]);generalize ν 0=n6 at dst_  f6⊢
  clear nuE fr iv
  have d6:=dst_
  obtain⟨k,l2,hk0,hk,hkl,hku⟩: ∃(k:Nat) (l2:List Fu),k=0∧l2=(us.take e).drop k∧k≤e∧D4 u.nm (us.take e)=D4 u.nm l2:=⟨0,_,rfl,rfl,by omega,rfl⟩
  rw[show(5,some (Value.int .i64 0))=(5,some (Value.int .i64 (k:Int))) by rw[hk0];rfl]
  clear hk0
  have htl':(us.take e).length=e:=by rw[List.length_take];omega
  obtain⟨z1,z2⟩:=BE f6 hbk
  induction l2 generalizing k with
  |nil=>
   obtain⟨hn1,hn2⟩:=drop_nil hk (by omega)
   have ltk:((k:Int)<(e:Int))=False:=eq_false (by omega)
   refine At.intro (by kernel_rfl) ?_
   intro ν fr;have nuE:=And.intro (fr.mem (b:=n6) (by simp)) (fr.nu)
   simp (maxDischargeDepth:=16) only[Af,↓Ae,simprocAttr,forall_const,nuE,fr.2,C1,↓AK,↓AJ,Bk,By,B6,Bm,ltk,we]
   refine At.weak (ihl (e+1) hd' (by omega) ?_) (by simp only[Bo,Ag,Nat.reduceEqDiff,↓reduceIte,reduceCtorEq,Nat.reduceAdd,and_self,and_true]) (SubA.fresh f6 (SubA.refl _))
   rw[hx,htk,HJ]
   have hku2:D4 u.nm (us.take e)=false:=hku
   have ho:Gu (us.take e) u=true:=by simp[Gu,hn,hku2,hokW]
   rw[ho,Bool.true_and]
  | cons v l2 ihk=>
   obtain⟨hb2,hltk,hk',htk'⟩:=DH hk
   rw[htl']at hltk
   have hb':us[k]? =some v:=by rw[List.getElem?_take,if_pos hltk]at hb2;exact hb2
   have ltk:((k:Int)<(e:Int))=True:=eq_true (by omega)
   have lik:((k:Int)<0)=False:=eq_false (by omega)
   have ltu:((k:Int)<(us.length:Int))=True:=eq_true (by omega)
   have wk:IntKind.i64.wrap ((k:Int)+1)=((k+1:Nat):Int):=by rw[Az (by omega) (by omega)];omega
   obtain⟨s,hs⟩: ∃s,rs[k]? =some s:=⟨_,List.getElem?_eq_getElem (by omega)⟩
   obtain⟨bk',off',cs',ty',fr0',hp0',hbk',hcr',hcc'⟩:=hS.at hs
   cases hp0'
   rw[hbk]at hbk'
   cases hbk'
   obtain⟨s1,_⟩:=hall k v s hb' hs
   have d0:cs[off+k*10]? =some (.string v.nm):=hcc' 0 _ (by simp[G2,s1])
   refine At.intro (by kernel_rfl) ?_
   intro ν fr;have nuE:=And.intro (fr.mem (b:=n6) (by simp)) (fr.nu)
   by_cases hv:v.nm.toList=u.nm.toList
   ·simp (maxDischargeDepth:=16) only[Af,↓Ae,simprocAttr,forall_const,nuE,fr.2,C1,↓AK,↓AJ,Bk,By,B6,Bm,ltk,lik,ltu,hbk,z1,z2,d0,eq_true hv]
    rw[bad (by simp[Gu,hku,RQ,hv])]
    exact⟨rfl,SubA.fresh f6 (SubA.refl _)⟩
   ·simp (maxDischargeDepth:=16) only[Af,↓Ae,simprocAttr,forall_const,nuE,fr.2,C1,↓AK,↓AJ,Bk,By,B6,Bm,ltk,lik,ltu,hbk,z1,z2,d0,eq_false hv,wk]
    exact At.weak (ihk (k+1) hk' (by omega) (by rw[hku,RQ];simp[hv])) (by simp only[Bo,Ag,Nat.reduceEqDiff,↓reduceIte,reduceCtorEq,Nat.reduceAdd,and_self,and_true]) (SubA.refl _)
theorem ND(A:AH)(us:List Fu)(p:Option Addr)(cap:Nat)(hl:us.length≤140737488355328)(hR:Kb A us p)(hz: ∀u∈us,SzX u.w)(htl: ∀u∈us,(tX u.w).length≤1000000)(B_:AH)(hB_:SubA A B_):Bi Tryz.prog 13 #[.slice p us.length cap] B_=some (.bool (R8 us)):=BP (Ce (by kernel_rfl) (uz A us p cap hl hR hz htl) hB_)
end Go.Proofs.YtfphceknmgadgaaGreatDoor
namespace Go.Proofs.YtfphceknmgadgaaGreatDoor
open Go.Vm
set_option maxHeartbeats 4000000
set_option maxRecDepth 20000
theorem uE:(ByteArray.mk #[102,101,101,32])=bs [102,101,101,32]:=rfl
theorem tz:(ByteArray.mk #[32,119,104,101,110,32])=bs [32,119,104,101,110,32]:=rfl
theorem tu:(ByteArray.mk #[58,32])=bs [58,32]:=rfl
theorem lpl:(ByteArray.mk #[32,43,32])=bs [32,43,32]:=rfl
theorem lmi:(ByteArray.mk #[32,109,105,110,32])=bs [32,109,105,110,32]:=rfl
theorem lma:(ByteArray.mk #[32,109,97,120,32])=bs [32,109,97,120,32]:=rfl
theorem uV:(ByteArray.mk #[59,10])=bs [59,10]:=rfl
theorem rfmV_h(A:AH)(us:List Fu)(p:Option Addr)(cap:Nat)(hlu:us.length≤140737488355328)(hR:Kb A us p)(hz: ∀u∈us,SzX u.w)(hl: ∀u∈us,(tX u.w).length≤1000000∧u.nm.size≤1000):Ak Tryz.prog 12 #[.slice p us.length cap] A (fun u_ A_=>u_=.string (bs (EK us))∧SubA A A_):=by
 refine AQ ⟨Tryz.prog,12,Tryz.f12,64,[0,2,3,4,5],⟨[],none⟩,[(8,.q false)],_⟩ rfl (args:=[_]) Tryz.func12 rfl (by kernel_rfl) Tryz.ntmps12 (by simp) (by kernel_rfl) ?_
 intro ν fr;have nuE:=fr.nu
 have wv:=ND A us p cap hlu hR hz (fun u hu=>(hl u hu).1) A (SubA.refl _)
 cases hw:R8 us with
 |false=>
  rw[hw]at wv
  have he:EK us=[]:=by unfold EK;rw[hw];rfl
  rw[he]
  simp (maxDischargeDepth:=16) only[Af,↓Ae,simprocAttr,forall_const,nuE,fr.2,C1,↓AK,↓AJ,Bk,By,B6,Bm,wv]
  rfl
 | true=>
  rw[hw]at wv
  have he:EK us=E6 us:=by unfold EK;rw[hw];rfl
  rw[he]
  have h64:us.length≤64:=by unfold R8 at hw;simp only[Bool.and_eq_true,decide_eq_true_eq]at hw;exact hw.1
  have hok: ∀u∈us,Jb u=true:=by
   unfold R8 at hw
   simp only[Bool.and_eq_true,decide_eq_true_eq]at hw
   intro u hu
   exact((Sc us [] (by simp;omega) hw.2).1 u hu).2
  obtain⟨rs,hrl,hS,hall⟩:=hR
  simp (maxDischargeDepth:=16) only[Af,↓Ae,simprocAttr,forall_const,nuE,fr.2,C1,↓AK,↓AJ,Bk,By,B6,Bm,wv]
  clear nuE fr wv hw he
  obtain⟨e,l,acc,he,hac0,hac,hd,hle,hbd⟩: ∃(e:Nat) (l:List Fu) (acc:List UInt8),e=0∧acc=[]∧acc=E6 (us.take e)∧l=us.drop e∧e≤us.length∧acc.length≤1002000*e:=⟨0,us,[],rfl,rfl,rfl,rfl,by omega,by simp⟩
  rw[show(4,some (Value.int .i64 0))=(4,some (Value.int .i64 (e:Int))) by rw[he];rfl,show(3,some (Value.string ⟨#[]⟩))=(3,some (Value.string (bs acc))) by rw[hac0];rfl]
  clear he hac0
  induction l generalizing e acc with
  |nil=>
   obtain⟨hn1,hn2⟩:=drop_nil hd hle
   have lt:((e:Int)<(us.length:Int))=False:=eq_false (by omega)
   rw[hn2]at hac
   refine At.intro (by kernel_rfl) ?_
   intro ν fr;have nuE:=fr.nu
   simp (maxDischargeDepth:=16) only[Af,↓Ae,simprocAttr,forall_const,nuE,fr.2,C1,↓AK,↓AJ,Bk,By,B6,Bm,lt]
   rw[hac]
  | cons u l ih=>
   obtain⟨ha,hlt,hd',htk⟩:=DH hd
   have lt:((e:Int)<(us.length:Int))=True:=eq_true (by omega)
   have li:((e:Int)<0)=False:=eq_false (by omega)
   have we:IntKind.i64.wrap ((e:Int)+1)=((e+1:Nat):Int):=by rw[Az (by omega) (by omega)];omega
   obtain⟨r,hr⟩: ∃r,rs[e]? =some r:=⟨_,List.getElem?_eq_getElem (by omega)⟩
   obtain⟨bk,off,cs,ty,fr0,hp0,hbk,hcr,hcc⟩:=hS.at hr
   subst hp0
   obtain⟨hr1,hrw,hr3,hr4,hr5,hr6⟩:=hall e u r ha hr
   simp only[G2,hr1,hr3,hr4,hr5,hr6]at hcr
   have hm:=List.mem_of_getElem? ha
   obtain⟨hl1,hl2⟩:=hl u hm
   have ho:=hok u hm
   have hfl:=Uv ho
   obtain⟨w1,w2,w3,w4,w5,w6⟩:=JM ho
   simp only[Hj,Bool.and_eq_true,decide_eq_true_eq]at w4 w5 w6
   have hexe:JY u.w=tX u.w:=by unfold JY;rw[w1];rfl
   have hex:(JY u.w).length≤1000000000:=by rw[hexe];omega
   have hp:We u.bps=Jh u.bps:=if_neg (by omega)
   have hpl:=Sb w2 w3
   have hpush:E6 (us.take (e+1))=E6 (us.take e)++GH u:=by rw[htk];simp[E6]
   have hbd':(E6 (us.take (e+1))).length≤1002000*(e+1):=by rw[hpush,←hac,List.length_append];omega
   have dv1:=bz (n:=u.fx) w4.1 (by omega)
   have dv2:=bz (n:=u.mn) w5.1 (by omega)
   have dv3:=bz (n:=u.mx) w6.1 (by omega)
   have il1:=D1 (n:=u.fx) (by omega) (by omega)
   have il2:=D1 (n:=u.mn) (by omega) (by omega)
   have il3:=D1 (n:=u.mx) (by omega) (by omega)
   obtain⟨ln,hln⟩: ∃l,u.nm=bs l:=⟨_,QS u.nm⟩
   have hlnl:ln.length≤1000:=by rw[hln,Ao]at hl2;exact hl2
   refine At.intro (by kernel_rfl) ?_
   intro ν fr;have nuE:=fr.nu
   have f6:=fr.2 0
   obtain⟨q1,q2⟩:=BE f6 hbk
   have iv:=fun o=>el A u.w r.w hrw (hz u hm) hex ((ν 0,o)::A) (SubA.fresh f6 (SubA.refl _))
   rw[hexe]at iv
   rw[hln]at hcr
   by_cases h1:u.fx=0
   ·have z1:(u.fx !=0)=false:=by simp[h1]
    have g1:Dz [43] u.fx=[]:=by unfold Dz;rw[if_pos h1]
    by_cases h2:u.mn=0
    ·have z2:(u.mn !=0)=false:=by simp[h2]
     have g2:Dz [109,105,110] u.mn=[]:=by unfold Dz;rw[if_pos h2]
     by_cases h3:u.mx=0
     ·have z3:(u.mx !=0)=false:=by simp[h3]
      have g3:Dz [109,97,120] u.mx=[]:=by unfold Dz;rw[if_pos h3]
      simp (maxDischargeDepth:=16) only[Af,↓Ae,simprocAttr,forall_const,nuE,fr.2,C1,↓AK,↓AJ,Bk,By,B6,Bm,lt,li,hbk,q1,q2,hcr,iv,hp,uE,tz,tu,uV,we,z1,z2,z3,C6,Ao]
      repeat' (first|exact trivial|refine And.intro (by first|omega|(simp only[List.length_append,List.length_cons,List.length_nil];omega)) ?_)
      have hacc:acc++102::101::101::32::(ln++[32,119,104,101,110,32]++tX u.w++[58,32]++Jh u.bps)++[59,10]=E6 (us.take (e+1)):=by
       rw[hpush,←hac,GH,FG,hln,BS,g1,g2,g3]
       simp only[List.append_assoc,List.cons_append,List.nil_append,List.append_nil]
      exact At.weak (ih (e+1) _ hacc hd' (by omega) (by rw[hacc];exact hbd')) (by simp only[Bo,Ag,Nat.reduceEqDiff,↓reduceIte,reduceCtorEq,Nat.reduceAdd,and_self,and_true]) (SubA.fresh f6 (SubA.refl _))
     ·have z3:(u.mx !=0)=true:=by simp[h3]
      have g3:Dz [109,97,120] u.mx=[32,109,97,120,32]++Lib.itoa u.mx:=by unfold Dz;rw[if_neg h3];rfl
      simp (maxDischargeDepth:=16) only[Af,↓Ae,simprocAttr,forall_const,nuE,fr.2,C1,↓AK,↓AJ,Bk,By,B6,Bm,lt,li,hbk,q1,q2,hcr,iv,hp,uE,tz,tu,uV,we,z1,z2,z3,dv3,lma,C6,Ao]
      repeat' (first|exact trivial|refine And.intro (by first|omega|(simp only[List.length_append,List.length_cons,List.length_nil];omega)) ?_)
      have hacc:acc++102::101::101::32::(ln++[32,119,104,101,110,32]++tX u.w++[58,32]++Jh u.bps)++32::109::97::120::32::Lib.itoa u.mx++[59,10]=E6 (us.take (e+1)):=by
       rw[hpush,←hac,GH,FG,hln,BS,g1,g2,g3]
       simp only[List.append_assoc,List.cons_append,List.nil_append,List.append_nil]
      exact At.weak (ih (e+1) _ hacc hd' (by omega) (by rw[hacc];exact hbd')) (by simp only[Bo,Ag,Nat.reduceEqDiff,↓reduceIte,reduceCtorEq,Nat.reduceAdd,and_self,and_true]) (SubA.fresh f6 (SubA.refl _))
    ·have z2:(u.mn !=0)=true:=by simp[h2]
     have g2:Dz [109,105,110] u.mn=[32,109,105,110,32]++Lib.itoa u.mn:=by unfold Dz;rw[if_neg h2];rfl
     by_cases h3:u.mx=0
     ·have z3:(u.mx !=0)=false:=by simp[h3]
      have g3:Dz [109,97,120] u.mx=[]:=by unfold Dz;rw[if_pos h3]
      simp (maxDischargeDepth:=16) only[Af,↓Ae,simprocAttr,forall_const,nuE,fr.2,C1,↓AK,↓AJ,Bk,By,B6,Bm,lt,li,hbk,q1,q2,hcr,iv,hp,uE,tz,tu,uV,we,z1,z2,dv2,lmi,z3,C6,Ao]
      repeat' (first|exact trivial|refine And.intro (by first|omega|(simp only[List.length_append,List.length_cons,List.length_nil];omega)) ?_)
      have hacc:acc++102::101::101::32::(ln++[32,119,104,101,110,32]++tX u.w++[58,32]++Jh u.bps)++32::109::105::110::32::Lib.itoa u.mn++[59,10]=E6 (us.take (e+1)):=by
       rw[hpush,←hac,GH,FG,hln,BS,g1,g2,g3]
       simp only[List.append_assoc,List.cons_append,List.nil_append,List.append_nil]
      exact At.weak (ih (e+1) _ hacc hd' (by omega) (by rw[hacc];exact hbd')) (by simp only[Bo,Ag,Nat.reduceEqDiff,↓reduceIte,reduceCtorEq,Nat.reduceAdd,and_self,and_true]) (SubA.fresh f6 (SubA.refl _))
     ·have z3:(u.mx !=0)=true:=by simp[h3]
      have g3:Dz [109,97,120] u.mx=[32,109,97,120,32]++Lib.itoa u.mx:=by unfold Dz;rw[if_neg h3];rfl
      simp (maxDischargeDepth:=16) only[Af,↓Ae,simprocAttr,forall_const,nuE,fr.2,C1,↓AK,↓AJ,Bk,By,B6,Bm,lt,li,hbk,q1,q2,hcr,iv,hp,uE,tz,tu,uV,we,z1,z2,dv2,lmi,z3,dv3,lma,C6,Ao]
      repeat' (first|exact trivial|refine And.intro (by first|omega|(simp only[List.length_append,List.length_cons,List.length_nil];omega)) ?_)
      have hacc:acc++102::101::101::32::(ln++[32,119,104,101,110,32]++tX u.w++[58,32]++Jh u.bps)++32::109::105::110::32::Lib.itoa u.mn++32::109::97::120::32::Lib.itoa u.mx++[59,10]=E6 (us.take (e+1)):=by
       rw[hpush,←hac,GH,FG,hln,BS,g1,g2,g3]
       simp only[List.append_assoc,List.cons_append,List.nil_append,List.append_nil]
      exact At.weak (ih (e+1) _ hacc hd' (by omega) (by rw[hacc];exact hbd')) (by simp only[Bo,Ag,Nat.reduceEqDiff,↓reduceIte,reduceCtorEq,Nat.reduceAdd,and_self,and_true]) (SubA.fresh f6 (SubA.refl _))
   ·have z1:(u.fx !=0)=true:=by simp[h1]
    have g1:Dz [43] u.fx=[32,43,32]++Lib.itoa u.fx:=by unfold Dz;rw[if_neg h1];rfl
    by_cases h2:u.mn=0
    ·have z2:(u.mn !=0)=false:=by simp[h2]
     have g2:Dz [109,105,110] u.mn=[]:=by unfold Dz;rw[if_pos h2]
     by_cases h3:u.mx=0
     ·have z3:(u.mx !=0)=false:=by simp[h3]
      have g3:Dz [109,97,120] u.mx=[]:=by unfold Dz;rw[if_pos h3]
      simp (maxDischargeDepth:=16) only[Af,↓Ae,simprocAttr,forall_const,nuE,fr.2,C1,↓AK,↓AJ,Bk,By,B6,Bm,lt,li,hbk,q1,q2,hcr,iv,hp,uE,tz,tu,uV,we,z1,dv1,lpl,z2,z3,C6,Ao]
      repeat' (first|exact trivial|refine And.intro (by first|omega|(simp only[List.length_append,List.length_cons,List.length_nil];omega)) ?_)
      have hacc:acc++102::101::101::32::(ln++[32,119,104,101,110,32]++tX u.w++[58,32]++Jh u.bps)++32::43::32::Lib.itoa u.fx++[59,10]=E6 (us.take (e+1)):=by
       rw[hpush,←hac,GH,FG,hln,BS,g1,g2,g3]
       simp only[List.append_assoc,List.cons_append,List.nil_append,List.append_nil]
      exact At.weak (ih (e+1) _ hacc hd' (by omega) (by rw[hacc];exact hbd')) (by simp only[Bo,Ag,Nat.reduceEqDiff,↓reduceIte,reduceCtorEq,Nat.reduceAdd,and_self,and_true]) (SubA.fresh f6 (SubA.refl _))
     ·have z3:(u.mx !=0)=true:=by simp[h3]
      have g3:Dz [109,97,120] u.mx=[32,109,97,120,32]++Lib.itoa u.mx:=by unfold Dz;rw[if_neg h3];rfl
      simp (maxDischargeDepth:=16) only[Af,↓Ae,simprocAttr,forall_const,nuE,fr.2,C1,↓AK,↓AJ,Bk,By,B6,Bm,lt,li,hbk,q1,q2,hcr,iv,hp,uE,tz,tu,uV,we,z1,dv1,lpl,z2,z3,dv3,lma,C6,Ao]
      repeat' (first|exact trivial|refine And.intro (by first|omega|(simp only[List.length_append,List.length_cons,List.length_nil];omega)) ?_)
      have hacc:acc++102::101::101::32::(ln++[32,119,104,101,110,32]++tX u.w++[58,32]++Jh u.bps)++32::43::32::Lib.itoa u.fx++32::109::97::120::32::Lib.itoa u.mx++[59,10]=E6 (us.take (e+1)):=by
       rw[hpush,←hac,GH,FG,hln,BS,g1,g2,g3]
       simp only[List.append_assoc,List.cons_append,List.nil_append,List.append_nil]
      exact At.weak (ih (e+1) _ hacc hd' (by omega) (by rw[hacc];exact hbd')) (by simp only[Bo,Ag,Nat.reduceEqDiff,↓reduceIte,reduceCtorEq,Nat.reduceAdd,and_self,and_true]) (SubA.fresh f6 (SubA.refl _))
    ·have z2:(u.mn !=0)=true:=by simp[h2]
     have g2:Dz [109,105,110] u.mn=[32,109,105,110,32]++Lib.itoa u.mn:=by unfold Dz;rw[if_neg h2];rfl
     by_cases h3:u.mx=0
     ·have z3:(u.mx !=0)=false:=by simp[h3]
      have g3:Dz [109,97,120] u.mx=[]:=by unfold Dz;rw[if_pos h3]
      simp (maxDischargeDepth:=16) only[Af,↓Ae,simprocAttr,forall_const,nuE,fr.2,C1,↓AK,↓AJ,Bk,By,B6,Bm,lt,li,hbk,q1,q2,hcr,iv,hp,uE,tz,tu,uV,we,z1,dv1,lpl,z2,dv2,lmi,z3,C6,Ao]
      repeat' (first|exact trivial|refine And.intro (by first|omega|(simp only[List.length_append,List.length_cons,List.length_nil];omega)) ?_)
      have hacc:acc++102::101::101::32::(ln++[32,119,104,101,110,32]++tX u.w++[58,32]++Jh u.bps)++32::43::32::Lib.itoa u.fx++32::109::105::110::32::Lib.itoa u.mn++[59,10]=E6 (us.take (e+1)):=by
       rw[hpush,←hac,GH,FG,hln,BS,g1,g2,g3]
       simp only[List.append_assoc,List.cons_append,List.nil_append,List.append_nil]
      exact At.weak (ih (e+1) _ hacc hd' (by omega) (by rw[hacc];exact hbd')) (by simp only[Bo,Ag,Nat.reduceEqDiff,↓reduceIte,reduceCtorEq,Nat.reduceAdd,and_self,and_true]) (SubA.fresh f6 (SubA.refl _))
     ·have z3:(u.mx !=0)=true:=by simp[h3]
      have g3:Dz [109,97,120] u.mx=[32,109,97,120,32]++Lib.itoa u.mx:=by unfold Dz;rw[if_neg h3];rfl
      simp (maxDischargeDepth:=16) only[Af,↓Ae,simprocAttr,forall_const,nuE,fr.2,C1,↓AK,↓AJ,Bk,By,B6,Bm,lt,li,hbk,q1,q2,hcr,iv,hp,uE,tz,tu,uV,we,z1,dv1,lpl,z2,dv2,lmi,z3,dv3,lma,C6,Ao]
      repeat' (first|exact trivial|refine And.intro (by first|omega|(simp only[List.length_append,List.length_cons,List.length_nil];omega)) ?_)
      have hacc:acc++102::101::101::32::(ln++[32,119,104,101,110,32]++tX u.w++[58,32]++Jh u.bps)++32::43::32::Lib.itoa u.fx++32::109::105::110::32::Lib.itoa u.mn++32::109::97::120::32::Lib.itoa u.mx++[59,10]=E6 (us.take (e+1)):=by
       rw[hpush,←hac,GH,FG,hln,BS,g1,g2,g3]
       simp only[List.append_assoc,List.cons_append,List.nil_append,List.append_nil]
      exact At.weak (ih (e+1) _ hacc hd' (by omega) (by rw[hacc];exact hbd')) (by simp only[Bo,Ag,Nat.reduceEqDiff,↓reduceIte,reduceCtorEq,Nat.reduceAdd,and_self,and_true]) (SubA.fresh f6 (SubA.refl _))
theorem vA(A:AH)(us:List Fu)(p:Option Addr)(cap:Nat)(hlu:us.length≤140737488355328)(hR:Kb A us p)(hz: ∀u∈us,SzX u.w)(hl: ∀u∈us,(tX u.w).length≤1000000∧u.nm.size≤1000)(B_:AH)(hB_:SubA A B_):Bi Tryz.prog 12 #[.slice p us.length cap] B_=some (.string (bs (EK us))):=BP (Ce (by kernel_rfl) (rfmV_h A us p cap hlu hR hz hl) hB_)
end Go.Proofs.YtfphceknmgadgaaGreatDoor
namespace Go.Proofs.YtfphceknmgadgaaGreatDoor
open Go.Vm
set_option maxHeartbeats 8000000
set_option maxRecDepth 20000
theorem fuL_sz{A:AH}{us:List Fu}{p:Option Addr}(hR:Kb A us p)(h: ∀u∈us,wX u.w=true): ∀u∈us,SzX u.w:=by
 intro u hu
 obtain⟨rs,hrl,hS,hall⟩:=hR
 obtain⟨i,hi⟩:=List.getElem?_of_mem hu
 have hlt:=(List.getElem?_eq_some_iff.1 hi).1
 exact wX_sz (hall i u rs[i] hi (List.getElem?_eq_getElem (by omega))).2.1 (h u hu)
theorem nf{s:ByteArray}(h:Gn s=true):s.size≤16:=by
 unfold Gn DS at h
 simp only[Bool.and_eq_true,decide_eq_true_eq]at h
 exact h.2.2.1
theorem PfO.err_nil{s:ByteArray}{e:Int}{a:Nat}{us:List Fu}(h:PfO s e a us)(he:e≠0):us=[]:=by
 cases h with
 |scan=>rfl
 |er=>rfl
 |ok=>exact absurd rfl he
theorem j4{A:AH}{s:ByteArray}{a:Nat}{us:List Fu}{p:Option Addr}(h:PfO s 0 a us)(hR:Kb A us p):R8 us=true∧(∀u∈us,SzX u.w)∧ ∀u∈us,(tX u.w).length≤1000000∧u.nm.size≤1000:=by
 obtain⟨w1,w2,w3⟩:=pf_wr h
 refine⟨w1,fuL_sz hR fun u hu=>(JM (w3 u hu).2.1).1,fun u hu=> ?_⟩
 have:=nf (w3 u hu).1
 have:=(w3 u hu).2.2
 exact⟨by omega,by omega⟩
theorem vQ(A:AH)(hT:FY A)(us:List Fu)(p:Option Addr)(cap:Nat)(hlu:us.length≤140737488355328)(hR:Kb A us p)(hz: ∀u∈us,SzX u.w∧mR u):Ak Tryz.prog 4 #[.slice p us.length cap] A (fun u_ A_=>u_=.bool true∧SubA A A_):=by
 refine AQ ⟨Tryz.prog,4,Tryz.f4,16,[0,2],⟨[],none⟩,[],_⟩ rfl (args:=[_]) Tryz.func4 rfl (by kernel_rfl) Tryz.ntmps4 (by simp) (by kernel_rfl) ?_
 intro ν fr;have nuE:=fr.nu
 have av:=GV A hT A (SubA.refl _)
 have fv:=dw A us p cap hlu hR (fun u hu=>(hz u hu).2) A (SubA.refl _)
 cases hf:Wi us with
 |false=>
  rw[hf]at fv
  simp (maxDischargeDepth:=16) only[Af,↓Ae,simprocAttr,forall_const,nuE,fr.2,C1,↓AK,↓AJ,Bk,By,B6,Bm,fv]
 |true=>
 rw[hf]at fv
 obtain⟨f1,f2⟩:=YT hf fun u hu=>(hz u hu).2
 have v1:=MN A hT us p cap hR (fun u hu=>(hz u hu).1) f2 A (SubA.refl _)
 have v2:=vA A us p cap hlu hR (fun u hu=>(hz u hu).1) f2 A (SubA.refl _)
 simp (maxDischargeDepth:=16) only[Af,↓Ae,simprocAttr,forall_const,nuE,fr.2,C1,↓AK,↓AJ,Bk,By,B6,Bm,fv,v1,v2,av]
theorem vH(A:AH)(hT:FY A)(us:List Fu)(p:Option Addr)(cap:Nat)(hlu:us.length≤140737488355328)(hR:Kb A us p)(hz: ∀u∈us,SzX u.w∧mR u):Bi Tryz.prog 4 #[.slice p us.length cap] A=some (.bool true):=BP (Ce (by kernel_rfl) (vQ A hT us p cap hlu hR hz) (SubA.refl _))
theorem nG(A:AH)(hT:FY A)(us:List Fu)(p:Option Addr)(cap:Nat)(hlu:us.length≤140737488355328)(hR:Kb A us p)(hz: ∀u∈us,SzX u.w∧mR u)(s:ByteArray)(zs:s.size≤140737488351232):Ak Tryz.prog 5 #[.slice p us.length cap,.string s] A (fun u_ A_=>u_=.bool true∧SubA A A_):=by
 refine AQ ⟨Tryz.prog,5,Tryz.f5,107,[0,1,4,5,6,7,8,9,10,12,13,14,15],⟨[7],none⟩,[],_⟩ rfl (args:=[_,_]) Tryz.func5 rfl (by kernel_rfl) Tryz.ntmps5 (by simp) (by kernel_rfl) ?_
 intro ν fr;have nuE:=fr.nu
 have av:=GV A hT A (SubA.refl _)
 have fv:=dw A us p cap hlu hR (fun u hu=>(hz u hu).2) A (SubA.refl _)
 cases hf:Wi us with
 |false=>
  rw[hf]at fv
  simp (maxDischargeDepth:=16) only[Af,↓Ae,simprocAttr,forall_const,nuE,fr.2,C1,↓AK,↓AJ,Bk,By,B6,Bm,fv,av]
 |true=>
 rw[hf]at fv
 by_cases hs:s.size≤4000
 rotate_left
 ·have lt:(4000<(s.size:Int))=True:=eq_true (by omega)
  simp (maxDischargeDepth:=16) only[Af,↓Ae,simprocAttr,forall_const,nuE,fr.2,C1,↓AK,↓AJ,Bk,By,B6,Bm,fv,lt,av]
 have lt:(4000<(s.size:Int))=False:=eq_false (by omega)
 obtain⟨f1,f2⟩:=YT hf fun u hu=>(hz u hu).2
 have v1:=MN A hT us p cap hR (fun u hu=>(hz u hu).1) f2 A (SubA.refl _)
 have v2:=ND A us p cap hlu hR (fun u hu=>(hz u hu).1) (fun u hu=>(f2 u hu).1) A (SubA.refl _)
 cases hw:R8 us with
 | false=>
  rw[hw]at v2
  simp (maxDischargeDepth:=16) only[Af,↓Ae,simprocAttr,forall_const,nuE,fr.2,C1,↓AK,↓AJ,Bk,By,B6,Bm,fv,lt,v1,v2]
  clear nuE fr
  refine Ak.newX (Gr s (by omega)) (SubA.nil _) ?_
  rintro v2 B2 ⟨e2,a2,vs,p2,k2,hP2,hl2,hc2,rfl,hR2⟩ d2
  refine⟨B2++A,SubA.refl _, ?_⟩
  have sM:SubA A (B2++A):=SubA.trans (SubA.refl A) d2.right
  have av2:=GV A hT (B2++A) sM
  have q2:Kb (B2++A) vs p2:=hR2.mono (SubA.left _ _)
  by_cases he:e2=0
  rotate_left
  ·have hv:=hP2.err_nil he
   subst hv
   have ne:(e2 !=0)=true:=by simp[he]
   intro ν fr;have nuE:=fr.nu
   simp (maxDischargeDepth:=16) only[Af,↓Ae,simprocAttr,forall_const,nuE,fr.2,C1,↓AK,↓AJ,Bk,By,B6,Bm,ne,eq_false he,av2]
   exact sM
  subst he
  obtain⟨g1,g2,g3⟩:=j4 hP2 q2
  have v3:=MN (B2++A) (hT.mono sM) vs p2 k2 q2 g2 g3 (B2++A) (SubA.refl _)
  have v4:=ND (B2++A) vs p2 k2 (by omega) q2 g2 (fun u hu=>(g3 u hu).1) (B2++A) (SubA.refl _)
  rw[g1]at v4
  have hzt:=Ao (EK vs)
  by_cases h4:(EK vs).length≤4000
  rotate_left
  ·have lt2:(4000<((bs (EK vs)).size:Int))=True:=eq_true (by omega)
   intro ν fr;have nuE:=fr.nu
   simp (maxDischargeDepth:=16) only[Af,↓Ae,simprocAttr,forall_const,nuE,fr.2,C1,↓AK,↓AJ,Bk,By,B6,Bm,v3,v4,lt2,av2]
   exact sM
  have lt2:(4000<((bs (EK vs)).size:Int))=False:=eq_false (by omega)
  intro ν fr;have nuE:=fr.nu
  simp (maxDischargeDepth:=16) only[Af,↓Ae,simprocAttr,forall_const,nuE,fr.2,C1,↓AK,↓AJ,Bk,By,B6,Bm,v3,v4,lt2]
  clear nuE fr
  refine Ak.newX (Gr (bs (EK vs)) (by omega)) (SubA.nil _) ?_
  rintro v5 B3 ⟨e3,a3,ws,p3,k3,hP3,hl3,hc3,rfl,hR3⟩ d3
  obtain⟨rfl,rfl,rfl⟩:=hP3.det (M7 g1 h4)
  refine⟨B3++(B2++A),SubA.refl _, ?_⟩
  have q3:Kb (B3++(B2++A)) ws p3:=hR3.mono (SubA.left _ _)
  have sN:SubA A (B3++(B2++A)):=SubA.trans sM d3.right
  have av3:=GV A hT (B3++(B2++A)) sN
  have iv:=ZG (B3++(B2++A)) ws p3 p2 k3 k2 (by omega) q3 (q2.mono d3.right) (B3++(B2++A)) (SubA.refl _)
  have v6:=MN (B3++(B2++A)) (hT.mono sN) ws p3 k3 q3 g2 g3 (B3++(B2++A)) (SubA.refl _)
  intro ν fr;have nuE:=fr.nu
  simp (maxDischargeDepth:=16) only[Af,↓Ae,simprocAttr,forall_const,nuE,fr.2,C1,↓AK,↓AJ,Bk,By,B6,Bm,iv,v6,av3]
  exact sN
 | true=>
  rw[hw]at v2
  have hzu:=Ao (EK us)
  by_cases h5:(EK us).length≤4000
  rotate_left
  ·have le:(((bs (EK us)).size:Int)≤4000)=False:=eq_false (by omega)
   simp (maxDischargeDepth:=16) only[Af,↓Ae,simprocAttr,forall_const,nuE,fr.2,C1,↓AK,↓AJ,Bk,By,B6,Bm,fv,lt,v1,v2,le]
   clear nuE fr
   refine Ak.newX (Gr s (by omega)) (SubA.nil _) ?_
   rintro v2 B2 ⟨e2,a2,vs,p2,k2,hP2,hl2,hc2,rfl,hR2⟩ d2
   refine⟨B2++A,SubA.refl _, ?_⟩
   have sM:SubA A (B2++A):=SubA.trans (SubA.refl A) d2.right
   have av2:=GV A hT (B2++A) sM
   have q2:Kb (B2++A) vs p2:=hR2.mono (SubA.left _ _)
   by_cases he:e2=0
   rotate_left
   ·have hv:=hP2.err_nil he
    subst hv
    have ne:(e2 !=0)=true:=by simp[he]
    intro ν fr;have nuE:=fr.nu
    simp (maxDischargeDepth:=16) only[Af,↓Ae,simprocAttr,forall_const,nuE,fr.2,C1,↓AK,↓AJ,Bk,By,B6,Bm,ne,eq_false he,av2]
    exact sM
   subst he
   obtain⟨g1,g2,g3⟩:=j4 hP2 q2
   have v3:=MN (B2++A) (hT.mono sM) vs p2 k2 q2 g2 g3 (B2++A) (SubA.refl _)
   have v4:=ND (B2++A) vs p2 k2 (by omega) q2 g2 (fun u hu=>(g3 u hu).1) (B2++A) (SubA.refl _)
   rw[g1]at v4
   have hzt:=Ao (EK vs)
   by_cases h4:(EK vs).length≤4000
   rotate_left
   ·have lt2:(4000<((bs (EK vs)).size:Int))=True:=eq_true (by omega)
    intro ν fr;have nuE:=fr.nu
    simp (maxDischargeDepth:=16) only[Af,↓Ae,simprocAttr,forall_const,nuE,fr.2,C1,↓AK,↓AJ,Bk,By,B6,Bm,v3,v4,lt2,av2]
    exact sM
   have lt2:(4000<((bs (EK vs)).size:Int))=False:=eq_false (by omega)
   intro ν fr;have nuE:=fr.nu
   simp (maxDischargeDepth:=16) only[Af,↓Ae,simprocAttr,forall_const,nuE,fr.2,C1,↓AK,↓AJ,Bk,By,B6,Bm,v3,v4,lt2]
   clear nuE fr
   refine Ak.newX (Gr (bs (EK vs)) (by omega)) (SubA.nil _) ?_
   rintro v5 B3 ⟨e3,a3,ws,p3,k3,hP3,hl3,hc3,rfl,hR3⟩ d3
   obtain⟨rfl,rfl,rfl⟩:=hP3.det (M7 g1 h4)
   refine⟨B3++(B2++A),SubA.refl _, ?_⟩
   have q3:Kb (B3++(B2++A)) ws p3:=hR3.mono (SubA.left _ _)
   have sN:SubA A (B3++(B2++A)):=SubA.trans sM d3.right
   have av3:=GV A hT (B3++(B2++A)) sN
   have iv:=ZG (B3++(B2++A)) ws p3 p2 k3 k2 (by omega) q3 (q2.mono d3.right) (B3++(B2++A)) (SubA.refl _)
   have v6:=MN (B3++(B2++A)) (hT.mono sN) ws p3 k3 q3 g2 g3 (B3++(B2++A)) (SubA.refl _)
   intro ν fr;have nuE:=fr.nu
   simp (maxDischargeDepth:=16) only[Af,↓Ae,simprocAttr,forall_const,nuE,fr.2,C1,↓AK,↓AJ,Bk,By,B6,Bm,iv,v6,av3]
   exact sN
  have le:(((bs (EK us)).size:Int)≤4000)=True:=eq_true (by omega)
  simp (maxDischargeDepth:=16) only[Af,↓Ae,simprocAttr,forall_const,nuE,fr.2,C1,↓AK,↓AJ,Bk,By,B6,Bm,fv,lt,v1,v2,le]
  clear nuE fr
  refine Ak.newX (Gr (bs (EK us)) (by omega)) (SubA.nil _) ?_
  rintro v0 B1 ⟨e1,a1,us',p1,k1,hP1,hl1,hc1,rfl,hR1⟩ d1
  obtain⟨rfl,rfl,rfl⟩:=hP1.det (M7 hw h5)
  refine⟨B1++A,SubA.refl _, ?_⟩
  have iv0:=ZG (B1++A) us' p1 p k1 cap (by omega) (hR1.mono (SubA.left _ _)) (hR.mono d1.right) (B1++A) (SubA.refl _)
  intro ν fr;have nuE:=fr.nu
  simp (maxDischargeDepth:=16) only[Af,↓Ae,simprocAttr,forall_const,nuE,fr.2,C1,↓AK,↓AJ,Bk,By,B6,Bm,iv0]
  clear nuE fr
  refine Ak.newX (Gr s (by omega)) (SubA.nil _) ?_
  rintro v2 B2 ⟨e2,a2,vs,p2,k2,hP2,hl2,hc2,rfl,hR2⟩ d2
  refine⟨B2++(B1++A),SubA.refl _, ?_⟩
  have sM:SubA A (B2++(B1++A)):=SubA.trans (d1.right) d2.right
  have av2:=GV A hT (B2++(B1++A)) sM
  have q2:Kb (B2++(B1++A)) vs p2:=hR2.mono (SubA.left _ _)
  by_cases he:e2=0
  rotate_left
  ·have hv:=hP2.err_nil he
   subst hv
   have ne:(e2 !=0)=true:=by simp[he]
   intro ν fr;have nuE:=fr.nu
   simp (maxDischargeDepth:=16) only[Af,↓Ae,simprocAttr,forall_const,nuE,fr.2,C1,↓AK,↓AJ,Bk,By,B6,Bm,ne,eq_false he,av2]
   exact sM
  subst he
  obtain⟨g1,g2,g3⟩:=j4 hP2 q2
  have v3:=MN (B2++(B1++A)) (hT.mono sM) vs p2 k2 q2 g2 g3 (B2++(B1++A)) (SubA.refl _)
  have v4:=ND (B2++(B1++A)) vs p2 k2 (by omega) q2 g2 (fun u hu=>(g3 u hu).1) (B2++(B1++A)) (SubA.refl _)
  rw[g1]at v4
  have hzt:=Ao (EK vs)
  by_cases h4:(EK vs).length≤4000
  rotate_left
  ·have lt2:(4000<((bs (EK vs)).size:Int))=True:=eq_true (by omega)
   intro ν fr;have nuE:=fr.nu
   simp (maxDischargeDepth:=16) only[Af,↓Ae,simprocAttr,forall_const,nuE,fr.2,C1,↓AK,↓AJ,Bk,By,B6,Bm,v3,v4,lt2,av2]
   exact sM
  have lt2:(4000<((bs (EK vs)).size:Int))=False:=eq_false (by omega)
  intro ν fr;have nuE:=fr.nu
  simp (maxDischargeDepth:=16) only[Af,↓Ae,simprocAttr,forall_const,nuE,fr.2,C1,↓AK,↓AJ,Bk,By,B6,Bm,v3,v4,lt2]
  clear nuE fr
  refine Ak.newX (Gr (bs (EK vs)) (by omega)) (SubA.nil _) ?_
  rintro v5 B3 ⟨e3,a3,ws,p3,k3,hP3,hl3,hc3,rfl,hR3⟩ d3
  obtain⟨rfl,rfl,rfl⟩:=hP3.det (M7 g1 h4)
  refine⟨B3++(B2++(B1++A)),SubA.refl _, ?_⟩
  have q3:Kb (B3++(B2++(B1++A))) ws p3:=hR3.mono (SubA.left _ _)
  have sN:SubA A (B3++(B2++(B1++A))):=SubA.trans sM d3.right
  have av3:=GV A hT (B3++(B2++(B1++A))) sN
  have iv:=ZG (B3++(B2++(B1++A))) ws p3 p2 k3 k2 (by omega) q3 (q2.mono d3.right) (B3++(B2++(B1++A))) (SubA.refl _)
  have v6:=MN (B3++(B2++(B1++A))) (hT.mono sN) ws p3 k3 q3 g2 g3 (B3++(B2++(B1++A))) (SubA.refl _)
  intro ν fr;have nuE:=fr.nu
  simp (maxDischargeDepth:=16) only[Af,↓Ae,simprocAttr,forall_const,nuE,fr.2,C1,↓AK,↓AJ,Bk,By,B6,Bm,iv,v6,av3]
  exact sN
theorem mz(A:AH)(hT:FY A)(us:List Fu)(p:Option Addr)(cap:Nat)(hlu:us.length≤140737488355328)(hR:Kb A us p)(hz: ∀u∈us,SzX u.w∧mR u)(s:ByteArray)(zs:s.size≤140737488351232):Bi Tryz.prog 5 #[.slice p us.length cap,.string s] A=some (.bool true):=BP (Ce (by kernel_rfl) (nG A hT us p cap hlu hR hz s zs) (SubA.refl _))
theorem fitsZS{N:Nat}{s:ByteArray}(z:MV N .str [.string s]):s.size≤N:=by
 simpa[MV]using z
theorem Sv(w:World)(ht:Lib.TabIs Tryz.prog w "internal/strconv.uint64pow10" .u64 Lib.pow10Tab)(a0:Option Addr)(len0 cap0:Nat)(w0:uh w.heap a0 len0 cap0):
  CallsH Tryz.prog 4 #[.slice a0 len0 cap0] w.heap fun e h'=>e=.returned (.bool true)∧Grew w.heap h':=by
 obtain⟨B,hB,hT⟩:=FY.of ht
 obtain⟨us,rfl,hl,hc,hR,hz⟩:=w0
 exact H0 (vH (Lr w.heap) (hT.mono hB.sub_all) us a0 cap0 hl hR hz) (by kernel_rfl) (ZD _)
theorem cX(w:World)(ht:Lib.TabIs Tryz.prog w "internal/strconv.uint64pow10" .u64 Lib.pow10Tab)(a0:Option Addr)(len0 cap0:Nat)(w0:uh w.heap a0 len0 cap0)(s:ByteArray)(zs:Vm.MV 140737488351232 .str [.string s]):
  CallsH Tryz.prog 5 #[.slice a0 len0 cap0,.string s] w.heap fun e h'=>e=.returned (.bool true)∧Grew w.heap h':=by
 obtain⟨B,hB,hT⟩:=FY.of ht
 obtain⟨us,rfl,hl,hc,hR,hz⟩:=w0
 exact H0 (mz (Lr w.heap) (hT.mono hB.sub_all) us a0 cap0 hl hR hz s (fitsZS zs)) (by kernel_rfl) (ZD _)
end Go.Proofs.YtfphceknmgadgaaGreatDoor
