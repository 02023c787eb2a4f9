/-
Types and values of expressions.
Conditions: none.
-/
import Derived.Test.YtgmfcdeknaeikaaGreatDoorUa
import Derived.Test.YtgmfcdeknaeikaaGreatDoorQj
set_option linter.unusedSimpArgs false
set_option linter.unusedVariables false
namespace Go.Proofs.YtgmfcdeknaeikaaGreatDoor
open Go.Vm
set_option maxHeartbeats 4000000
set_option maxRecDepth 20000
theorem Zd(n:Int):AK Tryz.prog 154 #[.int .i64 n] [] (fun u_ _=>u_=.agg #[.string ⟨#[]⟩,.int .i64 1,.int .i64 n,.string ⟨#[]⟩]):=by
 refine AC ⟨Tryz.prog,154,Tryz.f154,5,[0,2],⟨[],none⟩,[],_⟩ rfl (args:=[_]) Tryz.func154 rfl (by kernel_rfl) Tryz.ntmps154 (by simp) (by kernel_rfl) ?_
 intro ν fr
 simp only[AF,↓AE,simprocAttr]
theorem EF(n:Int)(A_:AH):Ag Tryz.prog 154 #[.int .i64 n] A_=some (.agg #[.string ⟨#[]⟩,.int .i64 1,.int .i64 n,.string ⟨#[]⟩]):=AX (BD (by kernel_rfl) (Zd n))
theorem Zg(b:Bool):AK Tryz.prog 157 #[.bool b] [] (fun u_ _=>u_=.agg #[.string ⟨#[]⟩,.int .i64 3,.int .i64 (if b=true then 1 else 0),.string ⟨#[]⟩]):=by
 refine AC ⟨Tryz.prog,157,Tryz.f157,8,[0,2,3],⟨[],none⟩,[],_⟩ rfl (args:=[_]) Tryz.func157 rfl (by kernel_rfl) Tryz.ntmps157 (by simp) (by kernel_rfl) ?_
 intro ν fr;have nuE:=fr.nu
 cases b<;>simp only[AF,↓AE,simprocAttr,nuE]
theorem Bx(b:Bool)(A_:AH):Ag Tryz.prog 157 #[.bool b] A_=some (.agg #[.string ⟨#[]⟩,.int .i64 3,.int .i64 (if b=true then 1 else 0),.string ⟨#[]⟩]):=AX (BD (by kernel_rfl) (Zg b))
theorem gk(a b:Int)(ha:Bc a=true)(hb:Bc b=true):AK Tryz.prog 183 #[.int .i64 a,.int .i64 b] [] (fun u_ _=>u_=(match H5 a b with|none=>.tuple #[.int .i64 0,.bool false]|some c=>.tuple #[.int .i64 c,.bool true])):=by
 refine AC ⟨Tryz.prog,183,Tryz.f183,27,[0,1,4,5],⟨[],none⟩,[],_⟩ rfl (args:=[_,_]) Tryz.func183 rfl (by kernel_rfl) Tryz.ntmps183 (by simp) (by kernel_rfl) ?_
 intro ν fr
 simp only[Bc,Bool.and_eq_true,decide_eq_true_eq]at ha hb
 by_cases b0:0<b
 ·have b1: ¬b<0:=by omega
  have w1:IntKind.i64.wrap (4611686018427387904 - b)=4611686018427387904 - b:=by rw[AW (by omega) (by omega)]
  by_cases c1:4611686018427387904 - b<a
  ·simp only[AF,↓AE,simprocAttr,w1,eq_true b0,eq_false b1,eq_true c1]
   rw[H5,if_pos (.inl ⟨b0,c1⟩)]
  ·have w3:IntKind.i64.wrap (a+b)=a+b:=by rw[AW (by omega) (by omega)]
   simp only[AF,↓AE,simprocAttr,w1,w3,eq_true b0,eq_false b1,eq_false c1]
   rw[H5,if_neg (by omega)]
 ·by_cases b1:b<0
  ·have w2:IntKind.i64.wrap (-4611686018427387904 - b)= -4611686018427387904 - b:=by rw[AW (by omega) (by omega)]
   by_cases c1:a< -4611686018427387904 - b
   ·simp only[AF,↓AE,simprocAttr,w2,eq_false b0,eq_true b1,eq_true c1]
    rw[H5,if_pos (.inr ⟨b1,c1⟩)]
   ·have w3:IntKind.i64.wrap (a+b)=a+b:=by rw[AW (by omega) (by omega)]
    simp only[AF,↓AE,simprocAttr,w2,w3,eq_false b0,eq_true b1,eq_false c1]
    rw[H5,if_neg (by omega)]
  ·have w3:IntKind.i64.wrap (a+b)=a+b:=by rw[AW (by omega) (by omega)]
   simp only[AF,↓AE,simprocAttr,w3,eq_false b0,eq_false b1]
   rw[H5,if_neg (by omega)]
theorem LF(a b:Int)(ha:Bc a=true)(hb:Bc b=true)(A_:AH):Ag Tryz.prog 183 #[.int .i64 a,.int .i64 b] A_=some ((match H5 a b with|none=>.tuple #[.int .i64 0,.bool false]|some c=>.tuple #[.int .i64 c,.bool true])):=AX (BD (by kernel_rfl) (gk a b ha hb))
theorem gf(n:Int)(hn:Bc n=true):AK Tryz.prog 197 #[.int .i64 n] [] (fun u_ _=>u_=.int .u64 (n.natAbs:Int)):=by
 refine AC ⟨Tryz.prog,197,Tryz.f197,10,[0,2],⟨[],none⟩,[],_⟩ rfl (args:=[_]) Tryz.func197 rfl (by kernel_rfl) Tryz.ntmps197 (by simp) (by kernel_rfl) ?_
 intro ν fr
 simp only[Bc,Bool.and_eq_true,decide_eq_true_eq]at hn
 by_cases h:n<0
 ·have w1:IntKind.i64.wrap (0 - n)= -n:=by rw[AW (by omega) (by omega)];omega
  have w2:IntKind.u64.wrap (-n)=(n.natAbs:Int):=by rw[lE (by omega) (by omega)];omega
  simp only[AF,↓AE,simprocAttr,eq_true h,w1,w2]
 ·have w2:IntKind.u64.wrap n=(n.natAbs:Int):=by rw[lE (by omega) (by omega)];omega
  simp only[AF,↓AE,simprocAttr,eq_false h,w2]
theorem FM(n:Int)(hn:Bc n=true)(A_:AH):Ag Tryz.prog 197 #[.int .i64 n] A_=some (.int .u64 (n.natAbs:Int)):=AX (BD (by kernel_rfl) (gf n hn))
theorem ms(x y:Nat)(hx:x<18446744073709551616)(hy:y<18446744073709551616)(A:AH):Ag Tryz.prog 196 #[.int .u64 (x:Int),.int .u64 (y:Int)] A=some (.tuple #[.int .u64 ((x*y / 18446744073709551616:Nat):Int),.int .u64 ((x*y % 18446744073709551616:Nat):Int)]):=
 AX ⟨fun _=>by kernel_rfl,fun h hs=>by
  unfold Di
  rw[if_pos (by kernel_rfl)]
  intro w hw
  subst hw
  refine(Tryz.bits_Mul64 x y hx hy w).mono fun e w' ⟨he,hw'⟩=> ?_
  subst hw'
  exact⟨⟨he,Grew.refl _⟩,rfl,rfl,rfl⟩⟩
theorem gj(a b:Int)(ha:Bc a=true)(hb:Bc b=true):AK Tryz.prog 184 #[.int .i64 a,.int .i64 b] [] (fun u_ _=>u_=(match Jk a b with|none=>.tuple #[.int .i64 0,.bool false]|some c=>.tuple #[.int .i64 c,.bool true])):=by
 refine AC ⟨Tryz.prog,184,Tryz.f184,33,[0,1,4,5,6,7,8],⟨[],none⟩,[],_⟩ rfl (args:=[_,_]) Tryz.func184 rfl (by kernel_rfl) Tryz.ntmps184 (by simp) (by kernel_rfl) ?_
 intro ν fr
 have hA:a.natAbs≤4611686018427387904:=by simp only[Bc,Bool.and_eq_true,decide_eq_true_eq]at ha;omega
 have hB:b.natAbs≤4611686018427387904:=by simp only[Bc,Bool.and_eq_true,decide_eq_true_eq]at hb;omega
 have mv:=fun A=>ms a.natAbs b.natAbs (by omega) (by omega) A
 obtain⟨q,hq⟩: ∃q,a.natAbs*b.natAbs=q:=⟨_,rfl⟩
 rw[hq]at mv
 have hab:a*b=if(a<0)≠(b<0)then -(q:Int)else(q:Int):=by
  rw[←hq,Int.natCast_mul]
  by_cases h1:a<0
  ·have e1:(a.natAbs:Int)= -a:=by omega
   by_cases h2:b<0
   ·have e2:(b.natAbs:Int)= -b:=by omega
    rw[e1,e2,if_neg (by simp[h1,h2]),Int.neg_mul_neg]
   ·have e2:(b.natAbs:Int)=b:=by omega
    rw[e1,e2,if_pos (by simp[h1,h2]),Int.neg_mul,Int.neg_neg]
  ·have e1:(a.natAbs:Int)=a:=by omega
   by_cases h2:b<0
   ·have e2:(b.natAbs:Int)= -b:=by omega
    rw[e1,e2,if_pos (by simp[h1,h2]),Int.mul_neg,Int.neg_neg]
   ·have e2:(b.natAbs:Int)=b:=by omega
    rw[e1,e2,if_neg (by simp[h1,h2])]
 by_cases hbig:4611686018427387904<q
 ·rw[Jk,hq,if_pos hbig]
  by_cases hh:q / 18446744073709551616=0
  ·have e1:(((q / 18446744073709551616:Nat):Int) !=0)=false:=by simp[hh]
   have e2:(4611686018427387904<((q % 18446744073709551616:Nat):Int))=True:=eq_true (by omega)
   simp only[AF,↓AE,simprocAttr,FM,ha,hb,mv,e2,hh]
  ·have e1:(((q / 18446744073709551616:Nat):Int) !=0)=true:=by simp;omega
   have e3:(((q / 18446744073709551616:Nat):Int)=0)=False:=eq_false (by omega)
   simp only[AF,↓AE,simprocAttr,FM,ha,hb,mv,e1]
 ·have q0:q / 18446744073709551616=0:=by omega
  have qm:q % 18446744073709551616=q:=by omega
  have e1:(((q / 18446744073709551616:Nat):Int) !=0)=false:=by simp[q0]
  have e2:(4611686018427387904<(q:Int))=False:=eq_false (by omega)
  have w1:IntKind.i64.wrap (q:Int)=q:=by rw[AW (by omega) (by omega)]
  have w2:IntKind.i64.wrap (0 - (q:Int))= -(q:Int):=by rw[AW (by omega) (by omega)];omega
  rw[Jk,hq,if_neg hbig,hab]
  by_cases h1:a<0
  ·by_cases h2:b<0
   ·simp only[AF,↓AE,simprocAttr,FM,ha,hb,mv,e2,q0,qm,w1,w2,eq_true h1,eq_true h2]
   ·simp only[AF,↓AE,simprocAttr,FM,ha,hb,mv,e2,q0,qm,w1,w2,eq_true h1,eq_false h2]
    simp
  ·by_cases h2:b<0
   ·simp only[AF,↓AE,simprocAttr,FM,ha,hb,mv,e2,q0,qm,w1,w2,eq_false h1,eq_true h2]
    simp
   ·simp only[AF,↓AE,simprocAttr,FM,ha,hb,mv,e2,q0,qm,w1,w2,eq_false h1,eq_false h2]
theorem OW(a b:Int)(ha:Bc a=true)(hb:Bc b=true)(A_:AH):Ag Tryz.prog 184 #[.int .i64 a,.int .i64 b] A_=some ((match Jk a b with|none=>.tuple #[.int .i64 0,.bool false]|some c=>.tuple #[.int .i64 c,.bool true])):=AX (BD (by kernel_rfl) (gj a b ha hb))
set_option maxHeartbeats 4000000
set_option maxRecDepth 20000
def CE(o:Option Ft):Value:=match o with
 |none=>.tuple #[.agg #[.string ⟨#[]⟩,.int .i64 0,.int .i64 0,.string ⟨#[]⟩],.bool false]
 |some f=>.tuple #[.agg #[.string f.nm,.int .i64 f.k,.int .i64 f.n,.string f.tx],.bool true]
theorem L9{n:Int}(h:Bc n=true):Bc (-n)=true:=by
 simp only[Bc,Bool.and_eq_true,decide_eq_true_eq]at h ⊢;omega
theorem ZZ(op:Int)(a b:Ft)(ha:Bc a.n=true)(hb:Bc b.n=true):AK Tryz.prog 159 #[.int .i64 op,.agg #[.string a.nm,.int .i64 a.k,.int .i64 a.n,.string a.tx],.agg #[.string b.nm,.int .i64 b.k,.int .i64 b.n,.string b.tx]] [] (fun u_ _=>u_=CE (Bd op a b)):=by
 refine AC ⟨Tryz.prog,159,Tryz.f159,76,[0,1,2,4,5,6,7,8,9,10],⟨[],none⟩,[],_⟩ rfl (args:=[_,_,_]) Tryz.func159 rfl (by kernel_rfl) Tryz.ntmps159 (by simp) (by kernel_rfl) ?_
 intro ν fr;have nuE:=fr.nu
 have hb2:=L9 hb
 have wn:IntKind.i64.wrap (0 - b.n)= -b.n:=by simp only[Bc,Bool.and_eq_true,decide_eq_true_eq]at hb;rw[AW (by omega) (by omega)];omega
 by_cases o8:op=8
 ·subst o8
  simp only[AF,↓AE,simprocAttr,nuE,Bx]
  simp[Bd,CE,Ej,eB,M0,and_assoc]
 by_cases o9:op=9
 ·subst o9
  simp only[AF,↓AE,simprocAttr,nuE,Bx]
  have e:(a.nm.toList==b.nm.toList&&(a.k==b.k&&(a.n==b.n&&a.tx.toList==b.tx.toList)))=M0 a b:=by
   unfold M0;rw[Bool.eq_iff_iff];simp[and_assoc]
  rw[e]
  cases h:M0 a b<;>simp[Bd,CE,Ej,eB,h]
 by_cases o10:op=10
 ·subst o10
  simp only[AF,↓AE,simprocAttr,nuE,Bx]
  simp[Bd,CE,Ej,eB]
 by_cases o11:op=11
 ·subst o11
  simp only[AF,↓AE,simprocAttr,nuE,Bx]
  simp[Bd,CE,Ej,eB]
 by_cases o12:op=12
 ·subst o12
  have hs:=LF a.n b.n ha hb
  cases h:H5 a.n b.n with
  |none=>
   rw[h]at hs
   simp only[AF,↓AE,simprocAttr,nuE,EF,Bx,hs]
   simp[Bd,CE,h]
  |some c=>
   rw[h]at hs
   simp only[AF,↓AE,simprocAttr,nuE,EF,Bx,hs]
   simp[Bd,CE,h,Gy,eB]
 by_cases o13:op=13
 ·subst o13
  have hs:=LF a.n (-b.n) ha hb2
  cases h:H5 a.n (-b.n)with
  |none=>
   rw[h]at hs
   simp only[AF,↓AE,simprocAttr,nuE,EF,Bx,hs,wn]
   simp[Bd,CE,h]
  |some c=>
   rw[h]at hs
   simp only[AF,↓AE,simprocAttr,nuE,EF,Bx,hs,wn]
   simp[Bd,CE,h,Gy,eB]
 by_cases o14:op=14
 ·subst o14
  have hs:=OW a.n b.n ha hb
  cases h:Jk a.n b.n with
  |none=>
   rw[h]at hs
   simp only[AF,↓AE,simprocAttr,nuE,EF,Bx,hs]
   simp[Bd,CE,h]
  |some c=>
   rw[h]at hs
   simp only[AF,↓AE,simprocAttr,nuE,EF,Bx,hs]
   simp[Bd,CE,h,Gy,eB]
 simp only[AF,↓AE,simprocAttr,nuE,Bx,eq_false o8,eq_false o9,eq_false o10,eq_false o11,eq_false o12,eq_false o13,eq_false o14]
 simp[Bd,CE,o8,o9,o10,o11,o12,o13,o14]
theorem C5(op:Int)(a b:Ft)(ha:Bc a.n=true)(hb:Bc b.n=true)(A_:AH):Ag Tryz.prog 159 #[.int .i64 op,.agg #[.string a.nm,.int .i64 a.k,.int .i64 a.n,.string a.tx],.agg #[.string b.nm,.int .i64 b.k,.int .i64 b.n,.string b.tx]] A_=some (CE (Bd op a b)):=AX (BD (by kernel_rfl) (ZZ op a b ha hb))
theorem Zb(A:AH)(xb mb:Nat)(es:Array MapEntry)(cl:Nat)(fs:List Ft)(hx:Vm.AA A xb=some (.cells #[.map (some mb),.nilIface] 186))(hmb:Vm.AA A mb=some (.map es cl))(hm:DK es (QH fs))(nm:ByteArray):AK Tryz.prog 155 #[.pointer (some ⟨xb,0,none⟩),.string nm] A (fun u_ A_=>u_=.agg #[.string ⟨#[]⟩,.int .i64 (Pb fs nm).k,.int .i64 (Pb fs nm).n,.string (Pb fs nm).tx]∧SubA A A_):=by
 refine AC ⟨Tryz.prog,155,Tryz.f155,23,[0,1,4,5],⟨[],none⟩,[],_⟩ rfl (args:=[_,_]) Tryz.func155 rfl (by kernel_rfl) Tryz.ntmps155 (by simp) (by kernel_rfl) ?_
 intro ν fr;have nuE:=fr.nu
 have f0:=fr.2 0
 obtain⟨q1,q2⟩:=AU f0 hx
 obtain⟨q3,q4⟩:=AU f0 hmb
 have lk:=fun o=>GO (s:=nm) (A:=(ν 0,o)::A) (ok:=false) (es:=es) (cl:=cl) (r:=mb) PQ PR eF (by simp[Vm.AA,q3,hmb]) hm
 rw[G5]at lk
 cases h:QL nm fs with
 |none=>
  rw[h]at lk
  simp only[Option.map_none,Option.getD_none,Bool.false_eq_true,if_false]at lk
  simp only[AF,↓AE,simprocAttr,nuE,fr.2,hx,q1,lk]
  rw[show Pb fs nm=qO by unfold Pb;rw[h]];rfl
 | some f=>
  rw[h]at lk
  simp only[Option.map_some,Option.getD_some,Bool.false_eq_true,if_false,kf]at lk
  by_cases hk:f.k=2
  ·have hk':(f.k==2)=true:=by simp[hk]
   simp only[AF,↓AE,simprocAttr,nuE,fr.2,hx,q1,lk,hk]
   rw[show Pb fs nm=Z4 f.tx by unfold Pb;rw[h];simp[hk]];rfl
  ·have hk':(f.k==2)=false:=by simp[hk]
   simp only[AF,↓AE,simprocAttr,nuE,fr.2,hx,q1,lk,hk']
   rw[show Pb fs nm=⟨eB,f.k,f.n,eB⟩ by unfold Pb;rw[h];simp[hk]];rfl
theorem Zc(A:AH)(xb mb:Nat)(es:Array MapEntry)(cl:Nat)(fs:List Ft)(hx:Vm.AA A xb=some (.cells #[.map (some mb),.nilIface] 186))(hmb:Vm.AA A mb=some (.map es cl))(hm:DK es (QH fs))(nm:ByteArray)(B_:AH)(hB_:SubA A B_):Ag Tryz.prog 155 #[.pointer (some ⟨xb,0,none⟩),.string nm] B_=some (.agg #[.string ⟨#[]⟩,.int .i64 (Pb fs nm).k,.int .i64 (Pb fs nm).n,.string (Pb fs nm).tx]):=AX (Aj (by kernel_rfl) (Zb A xb mb es cl fs hx hmb hm nm) hB_)
end Go.Proofs.YtgmfcdeknaeikaaGreatDoor
namespace Go.Vm
theorem PZ[dd:DefD]{P:Program}{n:Nat}{ρ:Ak}{Q:Exit→Act→World→Prop}{a:Act}{w:World}{l:Array Oper}{tl:List Oper}{d:Nat}{x:Operand}{t ty:TypeId}{pos:String}{aft:Array Edge}(hk:BO n ρ a)(hx:Aa ρ x=some .nilIface)(hd:d<n)(he: ∀w:World,(Op.equal t .nilIface .nilIface).run P w=.ok true w)
  (h: ∀a',BO n ((d,some (.bool true))::ρ) a'→wpList P l Q tl a' w):wpList P l Q (⟨some d,.binOp .eql t x (.const .nilIface) t,ty,pos,aft,none⟩::tl) a w:=by
 have hrun:(execOp a.eval ⟨some d,.binOp .eql t x (.const .nilIface) t,ty,pos,aft,none⟩).run P w=.ok (.value (.bool true)) w:=by
  have hxe:=AN hk hx
  have hc:a.eval (.const .nilIface)=.nilIface:=rfl
  have h1:(eqGuard .eql t x (.const .nilIface) .nilIface .nilIface).run P w=.ok () w:=by simp[eqGuard]
  have h2:binOp .eql t .nilIface .nilIface=(do Pure.pure (.bool (←Op.equal t .nilIface .nilIface)):Sem Value):=rfl
  simp only[execOp,hxe,hc,h2,Sem.run_bind,h1,he,Result.andThen_ok,Sem.run_pure]
 unfold wpList
 rw[if_pos (by simp[Region.wanted])]
 refine .inl ?_
 unfold Oper.wp
 rw[hrun]
 simp only[Oper.upon]
 exact h _ (hk.put hd _)
end Go.Vm
namespace Go.Proofs.YtgmfcdeknaeikaaGreatDoor
open Go.Vm
set_option maxHeartbeats 4000000
set_option maxRecDepth 20000
theorem Ye(b4 b5:Nat)(w:World):CallsD Tryz.prog 182 #[.pointer (some ⟨b4,0,none⟩),.pointer (some ⟨b5,0,none⟩)] .returning w fun en u w'=>en=.returned (.tuple #[])∧u=.returning∧w'=w:=by
 refine callsD_of_wpS Tryz.func182 rfl fun c₀ cs hu=> ?_
 apply wpS_seq
 apply wpS_region
 simp[wpOpsS,go_sem,recoverD,hu,Tryz.ntmps182,Exit.thenS,Array.replicate]
 refine wpS_of_wp ?_
 refine wp_cond (t:=false) (by simp[Act.eval]) ?_
 simp only[Bool.false_eq_true,if_false]
 refine wp_skip ?_
 simp[bodyPostS,results,Tryz.results182]
 cases c₀
 simp_all
theorem eu{a:Act}{w w0:World}{ρ:Ak}{dd:DefD}{base A:AH}{b4 b5:Nat}{K:Value→AH→Prop}(hk: @BO dd 37 ρ a)(h4:Vm.get ρ 4=some (.pointer (some ⟨b4,0,none⟩)))(h5:Vm.get ρ 5=some (.pointer (some ⟨b5,0,none⟩)))
  (l4:Vm.AA A b4=some (.cells #[.int .i64 0] 2)) (l5:Vm.AA A b5=some (.cells #[.bool true] 4)) (hs:CQ A w.heap) (hkp:BN base w0.heap A w.heap) (hr:Vm.Ai w0 w) (hK:K (.tuple #[.int .i64 0,.bool true]) A):
  Leaves Tryz.prog Tryz.f156 a.tmps (fun en w'=>Gl base w0.heap K en w'.heap∧Vm.Ai w0 w') [] .returning w:=by
 have hv:F9 Tryz.prog ρ A Tryz.f156.results.toList=some [.int .i64 0,.bool true]:=by
  rw[Tryz.results156]
  obtain⟨ν,fr⟩: ∃ν,Bu ν A:=⟨fun i=>w.heap.size+i,⟨fun i j h=>by simpa using h,fun i=>hs.none_of_size (by simp)⟩⟩
  simp only[AF,simprocAttr,h4,h5,l4,l5]
 exact⟨_,EB hk (GA hs hv),⟨_,A,rfl,hs,hkp,hK⟩,hr⟩
theorem Yd{a:Act}{w w0:World}{ρ:Ak}{base A:AH}{b4 b5:Nat}{K:Value→AH→Prop}(hk: @BO (⟨[{target:=.fn (.func 182) #[.pointer (some ⟨b4,0,none⟩),.pointer (some ⟨b5,0,none⟩)],args:= #[]}],.normal⟩:DefD) 37 ρ a)(h4:Vm.get ρ 4=some (.pointer (some ⟨b4,0,none⟩)))(h5:Vm.get ρ 5=some (.pointer (some ⟨b5,0,none⟩)))
  (l4:Vm.AA A b4=some (.cells #[.int .i64 0] 2)) (l5:Vm.AA A b5=some (.cells #[.bool true] 4)) (hs:CQ A w.heap) (hkp:BN base w0.heap A w.heap) (hr:Vm.Ai w0 w) (hK:K (.tuple #[.int .i64 0,.bool true]) A):
  Leaves Tryz.prog Tryz.f156 a.tmps (fun en w'=>Gl base w0.heap K en w'.heap∧Vm.Ai w0 w') a.defers .returning w:=by
 rw[hk.1]
 refine leaves_cons (by simp) (CF (by kernel_rfl)) ((Ye b4 b5 w).mono ?_)
 rintro en u w' ⟨rfl,rfl,rfl⟩
 exact eu hk h4 h5 l4 l5 hs hkp hr hK
theorem pZ(A:AH)(xb:Nat)(mv e:Value)(hx:Vm.AA A xb=some (.cells #[mv,.nilIface] 186))(r:Xr):AK Tryz.prog 156 #[.pointer (some ⟨xb,0,none⟩),Bt r] A fun u D=>u=.tuple #[.int .i64 0,.bool true]∧SubA A D:=by
 refine EK (args:=[.pointer (some ⟨xb,0,none⟩),Bt r]) Tryz.func156 rfl (by kernel_rfl) (n:=37) Tryz.ntmps156 (by simp) fun a w hd hk hsat=> ?_
 refine wp_seq ?_
 refine BE (dd:=dd0) (imp:=⟨[],none⟩) (A:=A) (KK:=fun ρ' A'=> ∃b4 b5,Ah ((5,some (.pointer (some ⟨b5,0,none⟩)))::(4,some (.pointer (some ⟨b4,0,none⟩)))::(0,some (.pointer (some ⟨xb,0,none⟩)))::[]) ρ'∧SubA ((b5,Obj.cells #[.bool false] 4)::(b4,Obj.cells #[.int .i64 0] 2)::A) A'∧Vm.AA A b4=none∧Vm.AA A b5=none∧b4≠b5) hk hsat ?_ ?_ ?_
 ·intro ν fr
  have nuE:=fr.nu
  simp only[Bt,Ba]
  simp only[AF,↓AE,simprocAttr]
  exact⟨ν 1,ν 2,(by simp[Ah,AO]),SubA.app (B:=[_,_]) (SubA.fresh (fr.2 0) (SubA.refl _)),fr.2 1,fr.2 2,by simp[nuE]⟩
 ·rintro ch a' w' ⟨X0,A',h1,_⟩ _ _
  cases h1
 rintro ρ' A' a1 w1 ⟨b4,b5,hse,hsA,n4,n5,n45⟩ hk1 hs1 kp1 rr1
 have h45:(b4=b5)=False:=eq_false n45
 have h54:(b5=b4)=False:=eq_false fun h=>n45 h.symm
 obtain⟨x4,y4⟩:=AU n4 hx
 obtain⟨x5,y5⟩:=AU n5 hx
 have hs1:=hs1.sub hsA
 have kp1:=kp1.sub hsA
 have hk1:=BO.weak (dd:=dd0) hk1 hse
 simp only[Exit.then]
 refine wp_seq ?_
 have t4:=hk1.2.2 4 _ rfl
 have t5:=hk1.2.2 5 _ rfl
 have t0:a1.defers=[]:=hk1.1
 have ts:a1.tmps.size=37:=hk1.2.1
 obtain⟨q4,g4⟩:=Array.getElem?_eq_some_iff.1 t4
 obtain⟨q5,g5⟩:=Array.getElem?_eq_some_iff.1 t5
 refine wp_region ?_
 simp[wpOps,go_sem,Exit.then,t0,ts,g4,g5]
 refine .inl (.inl ?_)
 refine wp_seq ?_
 refine wp_seq ?_
 refine wp_region_lit ?_
 refine BT (dd:=(⟨[{target:=.fn (.func 182) #[.pointer (some ⟨b4,0,none⟩),.pointer (some ⟨b5,0,none⟩)],args:= #[]}],.normal⟩:DefD)) (imp:=⟨[],none⟩) (A:=(b5,Obj.cells #[.bool false] 4)::(b4,Obj.cells #[.int .i64 0] 2)::A) (ρ:=[(5,some (.pointer (some ⟨b5,0,none⟩))),(4,some (.pointer (some ⟨b4,0,none⟩))),(0,some (.pointer (some ⟨xb,0,none⟩)))]) (KK:=fun ρ' A'=>Ah ((7,some (.pointer (some ⟨xb,0,none⟩)))::[(0,some (.pointer (some ⟨xb,0,none⟩))),(4,some (.pointer (some ⟨b4,0,none⟩))),(5,some (.pointer (some ⟨b5,0,none⟩)))]) ρ'∧A'=(b5,Obj.cells #[.bool false] 4)::(b4,Obj.cells #[.int .i64 0] 2)::A) rfl (hk1.lay rfl rfl rfl) hs1 ?_ ?_ ?_
 ·intro ν fr
  simp only[AF,↓AE,simprocAttr]
  exact(by simp[Ah,AO])
 ·rintro ch w' ⟨X0,A',h1,_⟩ _
  cases h1
 rintro ρ' A' a3 w3 ⟨hse,rfl⟩ hk3 hs3 kp3 rr3
 have hk3:=BO.weak (dd:=(⟨[{target:=.fn (.func 182) #[.pointer (some ⟨b4,0,none⟩),.pointer (some ⟨b5,0,none⟩)],args:= #[]}],.normal⟩:DefD)) hk3 hse
 refine BT (dd:=(⟨[{target:=.fn (.func 182) #[.pointer (some ⟨b4,0,none⟩),.pointer (some ⟨b5,0,none⟩)],args:= #[]}],.normal⟩:DefD)) (imp:=⟨[],none⟩) (KK:=fun ρ' A'=>Ah ((8,some (.pointer (some ⟨xb,0,none⟩)))::[(0,some (.pointer (some ⟨xb,0,none⟩))),(4,some (.pointer (some ⟨b4,0,none⟩))),(5,some (.pointer (some ⟨b5,0,none⟩)))]) ρ'∧A'=(b5,Obj.cells #[.bool false] 4)::(b4,Obj.cells #[.int .i64 0] 2)::A) rfl hk3 hs3 ?_ ?_ ?_
 ·intro ν fr
  simp only[AF,↓AE,simprocAttr]
  exact(by simp[Ah,AO])
 ·rintro ch w' ⟨X0,A',h1,_⟩ _
  cases h1
 rintro ρ' A' a4 w4 ⟨hse,rfl⟩ hk4 hs4 kp4 rr4
 have hk4:=BO.weak (dd:=(⟨[{target:=.fn (.func 182) #[.pointer (some ⟨b4,0,none⟩),.pointer (some ⟨b5,0,none⟩)],args:= #[]}],.normal⟩:DefD)) hk4 hse
 refine BT (dd:=(⟨[{target:=.fn (.func 182) #[.pointer (some ⟨b4,0,none⟩),.pointer (some ⟨b5,0,none⟩)],args:= #[]}],.normal⟩:DefD)) (imp:=⟨[],none⟩) (KK:=fun ρ' A'=>Ah ((9,some (.pointer (some ⟨xb,1,none⟩)))::[(0,some (.pointer (some ⟨xb,0,none⟩))),(4,some (.pointer (some ⟨b4,0,none⟩))),(5,some (.pointer (some ⟨b5,0,none⟩)))]) ρ'∧A'=(b5,Obj.cells #[.bool false] 4)::(b4,Obj.cells #[.int .i64 0] 2)::A) rfl hk4 hs4 ?_ ?_ ?_
 ·intro ν fr
  simp only[AF,↓AE,simprocAttr]
  exact(by simp[Ah,AO])
 ·rintro ch w' ⟨X0,A',h1,_⟩ _
  cases h1
 rintro ρ' A' a5 w5 ⟨hse,rfl⟩ hk5 hs5 kp5 rr5
 have hk5:=BO.weak (dd:=(⟨[{target:=.fn (.func 182) #[.pointer (some ⟨b4,0,none⟩),.pointer (some ⟨b5,0,none⟩)],args:= #[]}],.normal⟩:DefD)) hk5 hse
 refine BT (dd:=(⟨[{target:=.fn (.func 182) #[.pointer (some ⟨b4,0,none⟩),.pointer (some ⟨b5,0,none⟩)],args:= #[]}],.normal⟩:DefD)) (imp:=⟨[],none⟩) (KK:=fun ρ' A'=>Ah ((10,some .nilIface)::[(0,some (.pointer (some ⟨xb,0,none⟩))),(4,some (.pointer (some ⟨b4,0,none⟩))),(5,some (.pointer (some ⟨b5,0,none⟩)))]) ρ'∧A'=(b5,Obj.cells #[.bool false] 4)::(b4,Obj.cells #[.int .i64 0] 2)::A) rfl hk5 hs5 ?_ ?_ ?_
 ·intro ν fr
  simp only[AF,↓AE,simprocAttr,x4,x5,hx]
  exact(by simp[Ah,AO])
 ·rintro ch w' ⟨X0,A',h1,_⟩ _
  cases h1
 rintro ρ' A' a6 w6 ⟨hse,rfl⟩ hk6 hs6 kp6 rr6
 have hk6:=BO.weak (dd:=(⟨[{target:=.fn (.func 182) #[.pointer (some ⟨b4,0,none⟩),.pointer (some ⟨b5,0,none⟩)],args:= #[]}],.normal⟩:DefD)) hk6 hse
 refine PZ (dd:=(⟨[{target:=.fn (.func 182) #[.pointer (some ⟨b4,0,none⟩),.pointer (some ⟨b5,0,none⟩)],args:= #[]}],.normal⟩:DefD)) hk6 rfl (by decide) (fun w=>by kernel_rfl) fun a7 hk7=> ?_
 refine wpList_nil ?_
 simp only[Exit.then]
 refine wp_cond (t:=true) (AN (dd:=(⟨[{target:=.fn (.func 182) #[.pointer (some ⟨b4,0,none⟩),.pointer (some ⟨b5,0,none⟩)],args:= #[]}],.normal⟩:DefD)) hk7 rfl) ?_
 simp only[if_true]
 refine wp_seq ?_
 have hk7: @BO (⟨[{target:=.fn (.func 182) #[.pointer (some ⟨b4,0,none⟩),.pointer (some ⟨b5,0,none⟩)],args:= #[]}],.normal⟩:DefD) 37 [(0,some (.pointer (some ⟨xb,0,none⟩))),(4,some (.pointer (some ⟨b4,0,none⟩))),(5,some (.pointer (some ⟨b5,0,none⟩)))] a7:=BO.weak (dd:=(⟨[{target:=.fn (.func 182) #[.pointer (some ⟨b4,0,none⟩),.pointer (some ⟨b5,0,none⟩)],args:= #[]}],.normal⟩:DefD)) hk7 (by simp[Ah,AO])
 refine BE (dd:=(⟨[{target:=.fn (.func 182) #[.pointer (some ⟨b4,0,none⟩),.pointer (some ⟨b5,0,none⟩)],args:= #[]}],.normal⟩:DefD)) (imp:=⟨[],none⟩) (KK:=fun ρ' A'=>Ah [(0,some (.pointer (some ⟨xb,0,none⟩))),(4,some (.pointer (some ⟨b4,0,none⟩))),(5,some (.pointer (some ⟨b5,0,none⟩)))] ρ'∧A'=(b5,Obj.cells #[.bool true] 4)::(b4,Obj.cells #[.int .i64 0] 2)::A) hk7 hs6 ?_ ?_ ?_
 ·intro ν fr
  simp only[AF,↓AE,simprocAttr,h54]
  exact(by simp[Ah,AO])
 ·rintro ch a' w' ⟨X0,A',h1,_⟩ _ _
  cases h1
 rintro ρ' A' a8 w8 ⟨hse8,rfl⟩ hk8 hs8 kp8 rr8
 refine wp_ret ?_
 have hk8:=BO.weak (dd:=(⟨[{target:=.fn (.func 182) #[.pointer (some ⟨b4,0,none⟩),.pointer (some ⟨b5,0,none⟩)],args:= #[]}],.normal⟩:DefD)) hk8 hse8
 exact Yd hk8 rfl rfl (by simp[Vm.AA,h54]) (by simp[Vm.AA]) hs8 ((((((kp1.trans kp3).trans kp4).trans kp5).trans kp6)).trans kp8) (((((rr1.trans rr3).trans rr4).trans rr5).trans rr6).trans rr8) ⟨rfl,SubA.skip n5 (SubA.skip n4 (SubA.refl _))⟩
theorem pY{A:AH}{xb:Nat}{mv:Value}(hx:Vm.AA A xb=some (.cells #[mv,.nilIface] 186))(r:Xr)(B:AH)(hB:SubA A B):Ag Tryz.prog 156 #[.pointer (some ⟨xb,0,none⟩),Bt r] B=some (.tuple #[.int .i64 0,.bool true]):=
 AX (Aj (by kernel_rfl) (pZ A xb mv (.nilIface) hx r) hB)
set_option maxHeartbeats 4000000
set_option maxRecDepth 20000
theorem VN(fs:List Ft): ∀l:List Xs,lD fs l=l.map (EQ fs)
 | []=>by simp[lD]
 |x::l=>by simp[lD,VN fs l]
theorem Z3(a b:Ft):(a.nm.toList=b.nm.toList∧a.k=b.k∧a.n=b.n∧a.tx.toList=b.tx.toList)=(M0 a b=true):=by
 unfold M0;simp[and_assoc]
theorem gY(A:AH)(xb:Nat)(fs:List Ft)(f:Ft)(L:List Xs)(p:Option Addr)(cap:Nat)(rs:List Xr)(hl:L.length≤1000000)(hrs:rs.length=L.length)(hS:B5 Ba 5 A p rs)(ih: ∀(k:Nat) (x:Xs) (r:Xr),L[k]? =some x→rs[k]? =some r→ ∀B,SubA A B→Ag Tryz.prog 128 #[.pointer (some ⟨xb,0,none⟩),Bt r] B=some (CE (EQ fs x))):AK Tryz.prog 158 #[.pointer (some ⟨xb,0,none⟩),.agg #[.string f.nm,.int .i64 f.k,.int .i64 f.n,.string f.tx],.slice p L.length cap] A (fun u_ A_=>u_=CE (H6 f (L.map (EQ fs)))∧SubA A A_):=by
 refine AC ⟨Tryz.prog,158,Tryz.f158,33,[0,1,2,4,6,7,9,10,11,12,13,14],⟨[],none⟩,[],_⟩ rfl (args:=[_,_,_]) Tryz.func158 rfl (by kernel_rfl) Tryz.ntmps158 (by simp) (by kernel_rfl) ?_
 intro ν fr;have nuE:=fr.nu
 have f0:=fr.2 0
 have f1:=fr.2 1
 have n01:(ν 1=ν 0)=False:=by simp[nuE]
 simp only[AF,↓AE,simprocAttr]
 have dst_:((ν 0=ν 1)=False)∧((ν 1=ν 0)=False):=(by simp[nuE]);generalize ν 0=n4 at dst_  f0 f1 n01 ⊢;generalize ν 1=n6 at dst_  f0 f1 n01⊢
 clear nuE fr
 have d0:=dst_
 obtain⟨e,l,he,hd,hle,hx⟩: ∃(e:Nat) (l:List Xs),e=0∧l=L.drop e∧e≤L.length∧H6 f (L.map (EQ fs))=H6 f (l.map (EQ fs)):=⟨0,_,rfl,rfl,by omega,rfl⟩
 rw[hx]
 rw[show(14,some (Value.int .i64 0))=(14,some (Value.int .i64 (e:Int))) by rw[he];rfl]
 clear he hx
 induction l generalizing e with
 |nil=>
  obtain⟨hn1,hn2⟩:=drop_nil hd hle
  have lt:((e:Int)<(L.length:Int))=False:=eq_false (by omega)
  refine AR.intro (by kernel_rfl) ?_
  intro ν fr
  simp only[AF,↓AE,simprocAttr,Bx,lt]
  exact⟨rfl,SubA.skip f1 (SubA.skip f0 (SubA.refl _))⟩
 | cons x l ihl=>
  obtain⟨ha,hlt,hd',htk⟩:=Be hd
  have lt:((e:Int)<(L.length:Int))=True:=eq_true (by omega)
  have li:((e:Int)<0)=False:=eq_false (by omega)
  have we:IntKind.i64.wrap ((e:Int)+1)=((e+1:Nat):Int):=by rw[AW (by omega) (by omega)];omega
  obtain⟨s,hs⟩: ∃s,rs[e]? =some s:=⟨_,List.getElem?_eq_getElem (by omega)⟩
  obtain⟨bk,off,cs,ty,fr0,hp0,hbk,hcr,hcc⟩:=hS.at hs
  subst hp0
  simp only[Ba]at hcr
  obtain⟨q1,q2⟩:=AU f0 hbk
  obtain⟨q3,q4⟩:=AU f1 hbk
  refine AR.intro (by kernel_rfl) ?_
  intro ν fr;have nuE:=fr.m2 rfl
  have f9:=fr.2 0
  have h9:Vm.AA A (ν 0)=none:=(show SubA A ((n6,_)::(n4,_)::A) from SubA.skip f1 (SubA.skip f0 (SubA.refl _))).none f9
  have f8:=fr.2 1
  have h8:Vm.AA A (ν 1)=none:=(show SubA A ((n6,_)::(n4,_)::A) from SubA.skip f1 (SubA.skip f0 (SubA.refl _))).none f8
  have sA: ∀o o1 o2 o3,SubA A ((ν 1,o)::(ν 0,o1)::(n6,o2)::(n4,o3)::A):=fun _ _ _ _=>SubA.skip h8 (SubA.skip h9 (SubA.skip f1 (SubA.skip f0 (SubA.refl _))))
  have iv:=fun o o1 o2=>ih e x s ha hs ((ν 0,o)::(n6,o1)::(n4,o2)::A) (SubA.skip h9 (SubA.skip f1 (SubA.skip f0 (SubA.refl _))))
  simp only[Bt,Ba]at iv
  cases hv:EQ fs x with
  |none=>
   rw[hv]at iv
   simp only[CE]at iv
   simp only[AF,↓AE,simprocAttr,nuE,Bx,lt,hbk,hcr,q1,q3,iv,we,d0]
   exact⟨by simp only[List.map_cons,hv,H6];rfl,sA _ _ _ _⟩
  | some g=>
   rw[hv]at iv
   simp only[CE]at iv
   cases hg:M0 g f with
   |true=>
    simp only[AF,↓AE,simprocAttr,nuE,Bx,lt,hbk,hcr,q1,q3,iv,we,d0,Z3,hg]
    exact⟨by simp only[List.map_cons,hv,H6,hg,if_true];rfl,sA _ _ _ _⟩
   |false=>
    simp only[AF,↓AE,simprocAttr,nuE,Bx,lt,hbk,hcr,q1,q3,iv,we,d0,Z3,hg]
    have hc:H6 f ((x::l).map (EQ fs))=H6 f (l.map (EQ fs)):=by simp[hv,H6,hg]
    rw[hc]
    exact AR.weak (ihl (e+1) hd' (by omega)) (by simp[Ah,AO]) (SubA.skip f8 (SubA.skip f9 (SubA.refl _)))
theorem gZ(A:AH)(xb:Nat)(fs:List Ft)(f:Ft)(L:List Xs)(p:Option Addr)(cap:Nat)(rs:List Xr)(hl:L.length≤1000000)(hrs:rs.length=L.length)(hS:B5 Ba 5 A p rs)(ih: ∀(k:Nat) (x:Xs) (r:Xr),L[k]? =some x→rs[k]? =some r→ ∀B,SubA A B→Ag Tryz.prog 128 #[.pointer (some ⟨xb,0,none⟩),Bt r] B=some (CE (EQ fs x)))(B_:AH)(hB_:SubA A B_):Ag Tryz.prog 158 #[.pointer (some ⟨xb,0,none⟩),.agg #[.string f.nm,.int .i64 f.k,.int .i64 f.n,.string f.tx],.slice p L.length cap] B_=some (CE (H6 f (L.map (EQ fs)))):=AX (Aj (by kernel_rfl) (gY A xb fs f L p cap rs hl hrs hS ih) hB_)
set_option maxHeartbeats 8000000
set_option maxRecDepth 20000
theorem sD{A:AH}{b:Nat}{c:Array Value}{e:TypeId}{fr:Nat×Nat}{i:Nat}{v:Value}(h1:i<c.size)(h2:fr.2≤i)(h3:v.oneCell'=true):kS A b (some (.cells c e fr)) (i*1) [v]=some (Dw A b (.cells (c.setIfInBounds i v) e fr)):=by
 rw[Nat.mul_one]
 unfold kS
 simp only[List.length_cons,List.length_nil,DH,h3,Bool.and_true]
 rw[if_pos ⟨by omega,.inl h2,trivial⟩]
 rfl
def eZ(cs:Array Value)(l:List Int):Prop:= ∀(j:Nat) (k:Int),l[j]? =some k→cs[j]? =some (.int .i64 k)
theorem eZ.push{cs:Array Value}{l:List Int}(h:eZ cs l)(k:Int)(hk:l.length<cs.size):eZ (cs.setIfInBounds l.length (.int .i64 k)) (l++[k]):=by
 intro j x hj
 rw[Array.getElem?_setIfInBounds]
 by_cases hjl:l.length=j
 ·subst hjl
  rw[List.getElem?_append_right (Nat.le_refl _)]at hj
  simp at hj
  subst hj
  rw[if_pos rfl,if_pos hk]
 ·rw[if_neg hjl]
  by_cases hlt:j<l.length
  ·rw[List.getElem?_append_left hlt]at hj
   exact h j x hj
  ·rw[List.getElem?_append_right (by omega)]at hj
   have:j - l.length≠0:=by omega
   rw[List.getElem?_eq_none (by simp;omega)]at hj
   cases hj
theorem kY{op n:Int}{nm tx:ByteArray}{k:Nat}(h:Mn op nm tx n k=true):(op=1∧k=0)∨(op=2∧k=0)∨(op=3∧k=0)∨(op=4∧k=1)∨(op=5∧k=1)∨(6≤op∧op≤14∧k=2)∨(op=15∧2≤k∧k≤17)∨(op=16∧k=0)∨(op=17∧k=0):=by
 unfold Mn at h
 split at h
 ·simp only[Bool.and_eq_true,decide_eq_true_eq]at h;omega
 split at h
 ·simp only[Bool.and_eq_true,decide_eq_true_eq]at h;omega
 split at h
 ·simp only[Bool.and_eq_true,decide_eq_true_eq]at h;omega
 split at h
 ·simp only[Bool.and_eq_true,decide_eq_true_eq]at h;omega
 simp only[Bool.and_eq_true]at h
 obtain⟨_,h⟩:=h
 split at h
 ·simp only[decide_eq_true_eq]at h;omega
 split at h
 ·simp only[decide_eq_true_eq]at h;omega
 ·simp only[Bool.and_eq_true,decide_eq_true_eq]at h;omega
theorem nU{cs:Array Value}{e:TypeId}{fr:Nat×Nat}{i:Nat}{v:Value}(h:cs[i]? =some v):DW (some (.cells cs e fr)) i 1=some #[v]:=by
 have hi:=(Array.getElem?_eq_some_iff.1 h).1
 have h2:=(Array.getElem?_eq_some_iff.1 h).2
 have he:cs.extract i (i+1)= #[v]:=by
  apply Array.ext
  ·simp;omega
  ·intro j h3 h4
   have:j=0:=by simp at h4;omega
   subst this
   simp[h2]
 rw[B7,if_pos (by omega),he]
theorem gl(A:AH)(op n:Int)(nm tx:ByteArray)(args:List Xs)(p:Option Addr)(cap:Nat)(rs:List Xr)(hrs:rs.length=args.length)(hS:B5 Ba 5 A p rs)(fs:List Ft)(mb:Nat)(es:Array MapEntry)(cl:Nat)(hmb:Vm.AA A mb=some (.map es cl))(hm:DK es (QH fs))(hfo:Mn op nm tx n args.length=true)(ih: ∀(k:Nat) (x:Xs) (r:Xr),args[k]? =some x→rs[k]? =some r→ ∀B,SubA A B→Ag Tryz.prog 87 #[Bt r,.map (some mb)] B=some (.tuple #[.int .i64 (K4 fs x).1,.int .i64 (K4 fs x).2])):AK Tryz.prog 87 #[.agg #[.int .i64 op,.string nm,.string tx,.int .i64 n,.slice p args.length cap],.map (some mb)] A (fun u_ A_=>u_=.tuple #[.int .i64 (K4 fs (.mk op nm tx n args)).1,.int .i64 (K4 fs (.mk op nm tx n args)).2]∧SubA A A_):=by
 refine AC ⟨Tryz.prog,87,Tryz.f87,110,[0,1,2,4,5,6,7,8,9,10,11,12,13,14,20,21,22,49],⟨[],none⟩,[(24,.q false),(41,.q false)],_⟩ rfl (args:=[_,_]) Tryz.func87 rfl (by kernel_rfl) Tryz.ntmps87 (by simp) (by kernel_rfl) ?_
 intro ν fr
 have hop:=kY hfo
 have hl:args.length≤17:=by omega
 have f0:=fr.2 0
 simp only[AF,↓AE,simprocAttr]
 have dst_:True:=(by simp[]);generalize ν 0=n2 at dst_  f0⊢
 clear fr
 refine bi oB uY rfl rfl (by omega) (by simp only[maxLen];omega) fun kb hkb=> ?_
 obtain⟨d21,d22⟩:=AU hkb (show Vm.AA _ n2=some (Obj.cells #[.int .i64 op,.string nm,.string tx,.int .i64 n,.slice p args.length cap] 60) by simp[Vm.AA])
 have hkA:Vm.AA A kb=none:=(SubA.skip f0 (SubA.refl A)).none hkb
 intro ν fr
 simp only[AF,↓AE,simprocAttr,d21]
 clear fr
 obtain⟨m1,m2⟩:=AU f0 hmb
 obtain⟨m3,m4⟩:=AU hkA hmb
 obtain⟨e,l,ks,cs,fr9,he,hd,hle,hcs,hfr,hz,hfr1,hkl,hrow,hty⟩: ∃(e:Nat) (l:List Xs) (ks:List Int) (cs:Array Value) (fr9:Nat×Nat),e=0∧l=args.drop e∧e≤args.length∧cs=(List.replicate args.length (Value.int .i64 0)).toArray∧Obj.cells cs 3 fr9=Obj.cells (List.replicate args.length (Value.int .i64 0)).toArray 3∧cs.size=args.length∧fr9.2=0∧ks.length=e∧eZ cs ks∧dk fs args=(ks++(dk fs l).1,(dk fs l).2):=⟨0,_,[],_,_,rfl,rfl,by omega,rfl,rfl,by simp,rfl,rfl,fun j k h=>by simp at h,by simp⟩
 rw[show(22,some (Value.int .i64 0))=(22,some (Value.int .i64 (e:Int))) by rw[he];rfl,←hfr]
 clear he hfr hcs
 induction l generalizing e ks cs with
 | nil=>
  obtain⟨hn1,hn2⟩:=drop_nil hd hle
  have lt:((e:Int)<(args.length:Int))=False:=eq_false (by omega)
  have hty0:K4 fs (.mk op nm tx n args)=Gg fs op nm ks:=by rw[K4,hty];simp[dk]
  rw[hty0]
  have lk:=fun(B:AH) (hB:Vm.AA B mb=some (.map es cl))=>GO (s:=nm) (A:=B) (ok:=true) PQ PR eF hB hm
  rw[G5]at lk
  have hkl':ks.length=args.length:=by omega
  have hS2:B5 iC 1 ((kb,Obj.cells cs 3 fr9)::(n2,Obj.cells #[.int .i64 op,.string nm,.string tx,.int .i64 n,.slice p args.length cap] 60)::A) (some ⟨kb,0,none⟩) ks:=by
   refine .inr ⟨kb,0,cs,3,fr9,rfl,by simp[Vm.AA],fun i k hi=> ?_⟩
   have h:=hrow i k hi
   rw[Nat.zero_add,Nat.mul_one]
   exact nU h
  obtain⟨g,fnd,hg1,hg2,hgf⟩: ∃(g:Ft) (fnd:Bool),(Option.map kf (QL nm fs)).getD (.agg #[.string ⟨#[]⟩,.int .i64 0,.int .i64 0,.string ⟨#[]⟩])=.agg #[.string g.nm,.int .i64 g.k,.int .i64 g.n,.string g.tx]∧(Option.map kf (QL nm fs)).isSome=fnd∧QL nm fs=(if fnd=true then some g else none):=by
   cases h:QL nm fs with
   |none=>exact⟨qO,false,rfl,rfl,rfl⟩
   |some f=>exact⟨f,true,rfl,rfl,rfl⟩
  rw[hg1,hg2]at lk
  simp only[if_true]at lk
  refine AR.intro (by kernel_rfl) ?_
  intro ν fr;have nuE:=fr.m2 rfl
  have f9:=fr.2 0
  have h9:Vm.AA A (ν 0)=none:=(show SubA A ((kb,Obj.cells cs 3 fr9)::(n2,Obj.cells #[.int .i64 op,.string nm,.string tx,.int .i64 n,.slice p args.length cap] 60)::A) from SubA.skip hkA (SubA.skip f0 (SubA.refl _))).none f9
  have lkk:=fun o=>lk ((kb,o)::(n2,Obj.cells #[.int .i64 op,.string nm,.string tx,.int .i64 n,.slice p args.length cap] 60)::A) (by simp[Vm.AA,m1,m3,hmb])
  have av:=fun k o=>gO _ ks (some ⟨kb,0,none⟩) args.length hS2 (by omega) k ((ν 0,o)::(kb,Obj.cells cs 3 fr9)::(n2,Obj.cells #[.int .i64 op,.string nm,.string tx,.int .i64 n,.slice p args.length cap] 60)::A) (SubA.fresh f9 (SubA.refl _))
  rw[hkl']at av
  have sB: ∀o,SubA A ((ν 0,o)::(kb,Obj.cells cs 3 fr9)::(n2,Obj.cells #[.int .i64 op,.string nm,.string tx,.int .i64 n,.slice p args.length cap] 60)::A):=fun o=>SubA.skip h9 (SubA.skip hkA (SubA.skip f0 (SubA.refl _)))
  have c0:0<args.length→ ∃k0 l0,ks=k0::l0∧cs[0]? =some (.int .i64 k0):=fun h=>by
   cases hks:ks with
   |nil=>rw[hks]at hkl';simp at hkl';omega
   |cons k0 l0=>exact⟨k0,l0,rfl,hrow 0 k0 (by rw[hks];rfl)⟩
  have hpos:(8≤op∧op≤9)∨op=15→0<args.length:=by omega
  have hops:op=1∨op=2∨op=3∨op=16∨op=17∨op=4∨op=6∨op=7∨op=5∨op=12∨op=13∨op=14∨op=10∨op=11∨op=8∨op=9∨op=15:=by omega
  clear hop hfo ih hty hty0 lk hS hg1 hg2
  rcases hops with rfl|rfl|rfl|rfl|rfl|rfl|rfl|rfl|rfl|rfl|rfl|rfl|rfl|rfl|rfl|rfl|rfl
  ·simp only[AF,↓AE,simprocAttr,nuE,lt,lkk,d21]
   exact⟨by simp[Gg],sB _⟩
  ·simp only[AF,↓AE,simprocAttr,nuE,lt,lkk,d21]
   exact⟨by simp[Gg],sB _⟩
  ·cases fnd with
   |true=>
    simp only[AF,↓AE,simprocAttr,nuE,lt,lkk,d21]
    exact⟨by simp[Gg,hgf],sB _⟩
   |false=>
    simp only[AF,↓AE,simprocAttr,nuE,lt,lkk,d21]
    exact⟨by simp[Gg,hgf],sB _⟩
  ·cases fnd with
   | true=>
    by_cases hk2:g.k=2
    ·have hk2':(g.k==2)=true:=by simp[hk2]
     simp only[AF,↓AE,simprocAttr,nuE,lt,lkk,d21,hk2]
     exact⟨by simp[Gg,hgf,hk2],sB _⟩
    ·have hk2':(g.k==2)=false:=by simp[hk2]
     simp only[AF,↓AE,simprocAttr,nuE,lt,lkk,d21,hk2']
     exact⟨by simp[Gg,hgf,hk2],sB _⟩
   |false=>
    simp only[AF,↓AE,simprocAttr,nuE,lt,lkk,d21]
    exact⟨by simp[Gg,hgf],sB _⟩
  ·cases fnd with
   | true=>
    by_cases hk2:g.k=2
    ·have hk2':(g.k==2)=true:=by simp[hk2]
     simp only[AF,↓AE,simprocAttr,nuE,lt,lkk,d21,hk2]
     exact⟨by simp[Gg,hgf,hk2],sB _⟩
    ·have hk2':(g.k==2)=false:=by simp[hk2]
     simp only[AF,↓AE,simprocAttr,nuE,lt,lkk,d21,hk2']
     exact⟨by simp[Gg,hgf,hk2],sB _⟩
   |false=>
    simp only[AF,↓AE,simprocAttr,nuE,lt,lkk,d21]
    exact⟨by simp[Gg,hgf],sB _⟩
  ·have ak:=av 3
   cases hb:Fw ks 3 with
   |true=>
    rw[hb]at ak
    simp only[AF,↓AE,simprocAttr,nuE,lt,lkk,d21,ak]
    exact⟨by simp[Gg,hb],sB _⟩
   |false=>
    rw[hb]at ak
    simp only[AF,↓AE,simprocAttr,nuE,lt,lkk,d21,ak]
    exact⟨by simp[Gg,hb],sB _⟩
  ·have ak:=av 3
   cases hb:Fw ks 3 with
   |true=>
    rw[hb]at ak
    simp only[AF,↓AE,simprocAttr,nuE,lt,lkk,d21,ak]
    exact⟨by simp[Gg,hb],sB _⟩
   |false=>
    rw[hb]at ak
    simp only[AF,↓AE,simprocAttr,nuE,lt,lkk,d21,ak]
    exact⟨by simp[Gg,hb],sB _⟩
  ·have ak:=av 3
   cases hb:Fw ks 3 with
   |true=>
    rw[hb]at ak
    simp only[AF,↓AE,simprocAttr,nuE,lt,lkk,d21,ak]
    exact⟨by simp[Gg,hb],sB _⟩
   |false=>
    rw[hb]at ak
    simp only[AF,↓AE,simprocAttr,nuE,lt,lkk,d21,ak]
    exact⟨by simp[Gg,hb],sB _⟩
  ·have ak:=av 1
   cases hb:Fw ks 1 with
   |true=>
    rw[hb]at ak
    simp only[AF,↓AE,simprocAttr,nuE,lt,lkk,d21,ak]
    exact⟨by simp[Gg,hb],sB _⟩
   |false=>
    rw[hb]at ak
    simp only[AF,↓AE,simprocAttr,nuE,lt,lkk,d21,ak]
    exact⟨by simp[Gg,hb],sB _⟩
  ·have ak:=av 1
   cases hb:Fw ks 1 with
   |true=>
    rw[hb]at ak
    simp only[AF,↓AE,simprocAttr,nuE,lt,lkk,d21,ak]
    exact⟨by simp[Gg,hb],sB _⟩
   |false=>
    rw[hb]at ak
    simp only[AF,↓AE,simprocAttr,nuE,lt,lkk,d21,ak]
    exact⟨by simp[Gg,hb],sB _⟩
  ·have ak:=av 1
   cases hb:Fw ks 1 with
   |true=>
    rw[hb]at ak
    simp only[AF,↓AE,simprocAttr,nuE,lt,lkk,d21,ak]
    exact⟨by simp[Gg,hb],sB _⟩
   |false=>
    rw[hb]at ak
    simp only[AF,↓AE,simprocAttr,nuE,lt,lkk,d21,ak]
    exact⟨by simp[Gg,hb],sB _⟩
  ·have ak:=av 1
   cases hb:Fw ks 1 with
   |true=>
    rw[hb]at ak
    simp only[AF,↓AE,simprocAttr,nuE,lt,lkk,d21,ak]
    exact⟨by simp[Gg,hb],sB _⟩
   |false=>
    rw[hb]at ak
    simp only[AF,↓AE,simprocAttr,nuE,lt,lkk,d21,ak]
    exact⟨by simp[Gg,hb],sB _⟩
  ·have ak:=av 1
   cases hb:Fw ks 1 with
   |true=>
    rw[hb]at ak
    simp only[AF,↓AE,simprocAttr,nuE,lt,lkk,d21,ak]
    exact⟨by simp[Gg,hb],sB _⟩
   |false=>
    rw[hb]at ak
    simp only[AF,↓AE,simprocAttr,nuE,lt,lkk,d21,ak]
    exact⟨by simp[Gg,hb],sB _⟩
  ·have ak:=av 1
   cases hb:Fw ks 1 with
   |true=>
    rw[hb]at ak
    simp only[AF,↓AE,simprocAttr,nuE,lt,lkk,d21,ak]
    exact⟨by simp[Gg,hb],sB _⟩
   |false=>
    rw[hb]at ak
    simp only[AF,↓AE,simprocAttr,nuE,lt,lkk,d21,ak]
    exact⟨by simp[Gg,hb],sB _⟩
  ·obtain⟨k0,l0,hks,hc0⟩:=c0 (hpos (by decide))
   have ak:=av k0
   have lt0:((0:Int)<(args.length:Int))=True:=eq_true (by omega)
   cases hb:Fw ks k0 with
   |true=>
    rw[hb]at ak
    simp only[AF,↓AE,simprocAttr,nuE,lt,lkk,d21,ak,hc0,lt0]
    rw[hks]at hb
    exact⟨by simp[Gg,hks,hb],sB _⟩
   |false=>
    rw[hb]at ak
    simp only[AF,↓AE,simprocAttr,nuE,lt,lkk,d21,ak,hc0,lt0]
    rw[hks]at hb
    exact⟨by simp[Gg,hks,hb],sB _⟩
  ·obtain⟨k0,l0,hks,hc0⟩:=c0 (hpos (by decide))
   have ak:=av k0
   have lt0:((0:Int)<(args.length:Int))=True:=eq_true (by omega)
   cases hb:Fw ks k0 with
   |true=>
    rw[hb]at ak
    simp only[AF,↓AE,simprocAttr,nuE,lt,lkk,d21,ak,hc0,lt0]
    rw[hks]at hb
    exact⟨by simp[Gg,hks,hb],sB _⟩
   |false=>
    rw[hb]at ak
    simp only[AF,↓AE,simprocAttr,nuE,lt,lkk,d21,ak,hc0,lt0]
    rw[hks]at hb
    exact⟨by simp[Gg,hks,hb],sB _⟩
  ·obtain⟨k0,l0,hks,hc0⟩:=c0 (hpos (by decide))
   have ak:=av k0
   have lt0:((0:Int)<(args.length:Int))=True:=eq_true (by omega)
   cases hb:Fw ks k0 with
   | true=>
    rw[hb]at ak
    rw[hks]at hb
    by_cases h3:k0=3
    ·have h3':(k0 !=3)=false:=by simp[h3]
     simp only[AF,↓AE,simprocAttr,nuE,lt,lkk,d21,ak,hc0,lt0,h3']
     exact⟨by simp[Gg,hks,h3],sB _⟩
    ·have h3':(k0 !=3)=true:=by simp[h3]
     simp only[AF,↓AE,simprocAttr,nuE,lt,lkk,d21,ak,hc0,lt0,h3']
     exact⟨by simp[Gg,hks,hb,h3],sB _⟩
   |false=>
    rw[hb]at ak
    simp only[AF,↓AE,simprocAttr,nuE,lt,lkk,d21,ak,hc0,lt0]
    rw[hks]at hb
    exact⟨by simp[Gg,hks,hb],sB _⟩
 | cons x l ihl=>
  obtain⟨ha,hlt,hd',htk⟩:=Be hd
  have lt:((e:Int)<(args.length:Int))=True:=eq_true (by omega)
  have li:((e:Int)<0)=False:=eq_false (by omega)
  have we:IntKind.i64.wrap ((e:Int)+1)=((e+1:Nat):Int):=by rw[AW (by omega) (by omega)];omega
  obtain⟨s,hs⟩: ∃s,rs[e]? =some s:=⟨_,List.getElem?_eq_getElem (by omega)⟩
  obtain⟨bk,off,csb,tyb,frb,hp0,hbk,hcr,hcc⟩:=hS.at hs
  subst hp0
  simp only[Ba]at hcr
  obtain⟨q1,q2⟩:=AU f0 hbk
  obtain⟨q3,q4⟩:=AU hkA hbk
  refine AR.intro (by kernel_rfl) ?_
  intro ν fr;have nuE:=fr.m2 rfl
  have f1:=fr.2 0
  have hA1:Vm.AA A (ν 0)=none:=(show SubA A ((kb,Obj.cells cs 3 fr9)::(n2,Obj.cells #[.int .i64 op,.string nm,.string tx,.int .i64 n,.slice (some ⟨bk,off,none⟩) args.length cap] 60)::A) from SubA.skip hkA (SubA.skip f0 (SubA.refl _))).none f1
  have sA: ∀o o1 o2,SubA A ((ν 0,o)::(kb,o1)::(n2,o2)::A):=fun o o1 o2=>SubA.skip hA1 (SubA.skip hkA (SubA.skip f0 (SubA.refl _)))
  have iv:=fun o o1 o2=>ih e x s ha hs _ (sA o o1 o2)
  simp only[Bt,Ba]at iv
  by_cases hx:(K4 fs x).2=0
  ·have hx':((K4 fs x).2 !=0)=false:=by simp[hx]
   have hwr:=fun o o2=>sD (A:=(ν 0,o)::(kb,Obj.cells cs 3 fr9)::(n2,o2)::A) (b:=kb) (c:=cs) (e:=3) (fr:=fr9) (i:=e) (v:=.int .i64 (K4 fs x).1) (by omega) (by omega) rfl
   simp only[AF,↓AE,simprocAttr,nuE,lt,hbk,hcr,q1,q3,iv,we,hx,d21,hwr,Dw]
   refine AR.weak (ihl (e+1) (ks++[(K4 fs x).1]) (cs.setIfInBounds e (.int .i64 (K4 fs x).1)) hd' (by omega) (by simp[hz]) (by simp[hkl]) (by rw[←hkl];exact hrow.push _ (by omega)) (by rw[hty,dk,if_pos hx];simp)) (by simp[Ah,AO]) ?_
   exact SubA.skip (AJ (by simp[nuE]) (AJ (by simp[nuE]) hA1)) (SubA.refl _)
  ·have hx':((K4 fs x).2 !=0)=true:=by simp[hx]
   simp only[AF,↓AE,simprocAttr,nuE,lt,hbk,hcr,q1,q3,iv,hx',d21]
   have e1:K4 fs (.mk op nm tx n args)=(0,(K4 fs x).2):=by rw[K4,hty,dk,if_neg hx];simp[hx]
   rw[e1]
   exact⟨rfl,sA _ _ _⟩
theorem gm(A:AH)(op n:Int)(nm tx:ByteArray)(args:List Xs)(p:Option Addr)(cap:Nat)(rs:List Xr)(hrs:rs.length=args.length)(hS:B5 Ba 5 A p rs)(fs:List Ft)(mb:Nat)(es:Array MapEntry)(cl:Nat)(hmb:Vm.AA A mb=some (.map es cl))(hm:DK es (QH fs))(hfo:Mn op nm tx n args.length=true)(ih: ∀(k:Nat) (x:Xs) (r:Xr),args[k]? =some x→rs[k]? =some r→ ∀B,SubA A B→Ag Tryz.prog 87 #[Bt r,.map (some mb)] B=some (.tuple #[.int .i64 (K4 fs x).1,.int .i64 (K4 fs x).2]))(B_:AH)(hB_:SubA A B_):Ag Tryz.prog 87 #[.agg #[.int .i64 op,.string nm,.string tx,.int .i64 n,.slice p args.length cap],.map (some mb)] B_=some (.tuple #[.int .i64 (K4 fs (.mk op nm tx n args)).1,.int .i64 (K4 fs (.mk op nm tx n args)).2]):=AX (Aj (by kernel_rfl) (gl A op n nm tx args p cap rs hrs hS fs mb es cl hmb hm hfo ih) hB_)
end Go.Proofs.YtgmfcdeknaeikaaGreatDoor
