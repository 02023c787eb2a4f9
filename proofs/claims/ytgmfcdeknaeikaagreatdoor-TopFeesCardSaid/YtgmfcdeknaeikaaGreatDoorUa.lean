/-
Expressions as data; numbers, literals, depth, form, names.
Conditions: none.
-/
import Derived.Test.YtgmfcdeknaeikaaGreatDoorQd
import Derived.Laws.MakeOwn
set_option linter.unusedSimpArgs false
set_option linter.unusedVariables false
set_option linter.defProp false
namespace Go.Proofs.YtgmfcdeknaeikaaGreatDoor
open Go.Vm
set_option maxHeartbeats 2000000
set_option maxRecDepth 20000
def Gh:=An @Cd (An @C8 (An @C9 (An @CM (An @Cc (An @C6 (An @D1 (An @Cr (An @E5 (An @H2 (An @Es (An @D5 (An @Db (An @El @GP)))))))))))))
structure Ft where
 nm:ByteArray
 k:Int
 n:Int
 tx:ByteArray
def Kg(f:Ft):List Value:=[.string f.nm,.int .i64 f.k,.int .i64 f.n,.string f.tx]
def kf(f:Ft):Value:=.agg #[.string f.nm,.int .i64 f.k,.int .i64 f.n,.string f.tx]
def QL(nm:ByteArray):List Ft→Option Ft
 | []=>none
 |f::l=>if f.nm.toList=nm.toList then some f else QL nm l
def Bc(n:Int):Bool:=decide (-4611686018427387904≤n)&&decide (n≤4611686018427387904)
def Ei(f:Ft):Bool:=decide (f.k=2)||(decide (f.k=1)&&Bc f.n)||(decide (f.k=3)&&(decide (f.n=0)||decide (f.n=1)))
def eH(c:UInt8):Bool:=decide (32≤c.toNat)&&decide (c.toNat≤126)&&decide (c.toNat≠34)
def mp(s:ByteArray):Bool:=decide (s.size≤100)&&s.toList.all eH
def F8(s:ByteArray):Bool:=decide (s.toList=[])
def Mn(op:Int)(nm tx:ByteArray)(n:Int)(k:Nat):Bool:=
 if op=1 then Bc n&&F8 nm&&F8 tx&&decide (k=0)
 else if op=2 then mp tx&&F8 nm&&decide (n=0)&&decide (k=0)
 else if op=3 then Bp nm&&F8 tx&&decide (n=0)&&decide (k=0)
 else if op=16∨op=17 then Bp nm&&decide (1≤n)&&decide (n≤10000000)&&F8 tx&&decide (k=0)
 else F8 nm&&F8 tx&&decide (n=0)&&(if op=4∨op=5 then decide (k=1)else if 6≤op∧op≤14 then decide (k=2)else decide (op=15)&&decide (2≤k)&&decide (k≤17))
mutual
def Mm:Xs→Nat→Bool
 | .mk _ _ _ _ _,0=>true
 | .mk _ _ _ _ args,n+1=>px args n
def px:List Xs→Nat→Bool
 | [],_=>false
 |x::l,n=>Mm x n||px l n
end
mutual
def HX:Xs→Bool
 | .mk op nm tx n args=>Mn op nm tx n args.length&&mJ args
def mJ:List Xs→Bool
 | []=>true
 |x::l=>HX x&&mJ l
end
def Fw(ks:List Int)(k:Int):Bool:=ks.all fun x=>decide (x=k)
def Gg(fs:List Ft)(op:Int)(nm:ByteArray)(ks:List Int):Int×Int:=
 if op=1 then(1,0)else if op=2 then(2,0)
 else if op=3 then(match QL nm fs with|none=>(0,6)|some f=>(f.k,0))
 else if op=16∨op=17 then(match QL nm fs with|none=>(0,6)|some f=>if f.k=2 then(1,0)else(0,28))
 else if op=4∨op=6∨op=7 then(if Fw ks 3 then(3,0)else(0,28))
 else if op=5∨op=12∨op=13∨op=14 then(if Fw ks 1 then(1,0)else(0,28))
 else if op=10∨op=11 then(if Fw ks 1 then(3,0)else(0,28))
 else if op=8∨op=9 then(if Fw ks (ks.headD 0)then(3,0)else(0,28))
 else if op=15 then(if Fw ks (ks.headD 0)&&decide (ks.headD 0≠3)then(3,0)else(0,28))
 else(0,0)
mutual
def K4(fs:List Ft):Xs→Int×Int
 | .mk op nm _ _ args=>if(dk fs args).2=0 then Gg fs op nm (dk fs args).1 else(0,(dk fs args).2)
def dk(fs:List Ft):List Xs→List Int×Int
 | []=>([],0)
 |x::l=>if(K4 fs x).2=0 then((K4 fs x).1::(dk fs l).1,(dk fs l).2)else([],(K4 fs x).2)
end
def Mv(fs:List Ft)(t:Xs):Int×Int:=if Mm t 8 then(0,27)else if HX t=false then(0,2)else K4 fs t
def Gy(n:Int):Ft:=⟨eB,1,n,eB⟩
def Ej(b:Bool):Ft:=⟨eB,3,if b then 1 else 0,eB⟩
def Z4(s:ByteArray):Ft:=⟨eB,2,0,s⟩
def qO:Ft:=⟨eB,0,0,eB⟩
def M0(a b:Ft):Bool:=decide (a.nm.toList=b.nm.toList)&&decide (a.k=b.k)&&decide (a.n=b.n)&&decide (a.tx.toList=b.tx.toList)
def Pb(fs:List Ft)(nm:ByteArray):Ft:=match QL nm fs with
 |none=>qO
 |some f=>if f.k=2 then Z4 f.tx else⟨eB,f.k,f.n,eB⟩
def H5(a b:Int):Option Int:=if(0<b∧4611686018427387904 - b<a)∨(b<0∧a< -4611686018427387904 - b)then none else some (a+b)
def Jk(a b:Int):Option Int:=if 4611686018427387904<a.natAbs*b.natAbs then none else some (a*b)
def Bd(op:Int)(a b:Ft):Option Ft:=
 if op=8 then some (Ej (M0 a b))else if op=9 then some (Ej (!(M0 a b)))
 else if op=10 then some (Ej (decide (a.n<b.n)))else if op=11 then some (Ej (decide (a.n≤b.n)))
 else if op=12 then(H5 a.n b.n).map Gy else if op=13 then(H5 a.n (-b.n)).map Gy
 else if op=14 then(Jk a.n b.n).map Gy else some b
def H6(f:Ft):List (Option Ft)→Option Ft
 | []=>some (Ej false)
 |none::_=>none
 |some v::l=>if M0 v f then some (Ej true)else H6 f l
def oW(fs:List Ft)(op:Int)(nm tx:ByteArray)(n:Int)(vs:List (Option Ft)):Option Ft:=
 if op=1 then some (Gy n)else if op=2 then some (Z4 tx)else if op=3 then some (Pb fs nm)
 else if op=16∨op=17 then some (Gy 0)
 else match vs with
  | []=>none
  |none::_=>none
  | some f::l=>
   if op=4 then some (Ej (decide (f.n=0)))else if op=5 then some (Gy (-f.n))
   else if op=15 then H6 f l
   else if(op=6∧f.n=0)∨(op=7∧f.n=1)then some f
   else match l with
    |some g::_=>Bd op f g
    |_=>none
mutual
def EQ(fs:List Ft):Xs→Option Ft
 | .mk op nm tx n args=>oW fs op nm tx n (lD fs args)
def lD(fs:List Ft):List Xs→List (Option Ft)
 | []=>[]
 |x::l=>EQ fs x::lD fs l
end
def Fr(fs:List Ft)(t:Xs):Int×Ft:=if(Mv fs t).2=0 then(match EQ fs t with|none=>(4,qO)|some v=>(0,v))else((Mv fs t).2,qO)
mutual
def FC:Xs→List ByteArray
 | .mk op nm _ _ args=>(if op=3∨op=16∨op=17 then [nm]else [])++LL args
def LL:List Xs→List ByteArray
 | []=>[]
 |x::l=>FC x++LL l
end
def Tu(n:Int):Xs:=.mk 1 eB eB n []
def Sb(v:Ft):Xs:=if v.k=1 then Tu v.n else if v.k=2 then .mk 2 eB v.tx 0 []else .mk 8 eB eB 0 [Tu 1,Tu (2 - v.n)]
mutual
def OY:Xs→Xs
 | .mk op nm tx n args=>if(FC (.mk op nm tx n args)).isEmpty&&decide ((Fr [] (.mk op nm tx n args)).1=0)then Sb (Fr [] (.mk op nm tx n args)).2 else .mk op nm tx n (qG args)
def qG:List Xs→List Xs
 | []=>[]
 |x::l=>OY x::qG l
end
def qM(t:Xs):Xs:=if Mm t 8|| !(HX t)then t else OY t
mutual
def YO:Xs→Xs→Bool
 | .mk op nm tx n args,.mk op' nm' tx' n' args'=>decide (op=op')&&decide (nm.toList=nm'.toList)&&decide (tx.toList=tx'.toList)&&decide (n=n')&&Rb args args'
def Rb:List Xs→List Xs→Bool
 | [],[]=>true
 |x::l,y::m=>YO x y&&Rb l m
 |_,_=>false
end
def sU(n:Int):Xs:=.mk 8 eB eB 0 [Tu 1,Tu n]
def Va(t:Xs):Bool:=YO (qM t) (sU 1)
set_option maxHeartbeats 4000000
set_option maxRecDepth 20000
theorem ZO:ByteArray.toList ⟨#[]⟩=[]:=by rw[ByteArray.toList_eq]
theorem gi(n:Int):AK Tryz.prog 121 #[.int .i64 n] [] (fun u_ _=>u_=.bool (Bc n)):=by
 refine AC ⟨Tryz.prog,121,Tryz.f121,9,[0,2],⟨[],none⟩,[],_⟩ rfl (args:=[_]) Tryz.func121 rfl (by kernel_rfl) Tryz.ntmps121 (by simp) (by kernel_rfl) ?_
 intro ν fr
 unfold Bc
 by_cases h1: -4611686018427387904≤n
 ·by_cases h2:n≤4611686018427387904
  ·simp only[AF,↓AE,simprocAttr,eq_true h1,eq_true h2]
  ·simp only[AF,↓AE,simprocAttr,eq_true h1,eq_false h2]
 ·simp only[AF,↓AE,simprocAttr,eq_false h1]
theorem CW(n:Int)(A_:AH):Ag Tryz.prog 121 #[.int .i64 n] A_=some (.bool (Bc n)):=AX (BD (by kernel_rfl) (gi n))
theorem ga(s:ByteArray)(hs:s.size≤9223372036854775807):AK Tryz.prog 152 #[.string s] [] (fun u_ _=>u_=.bool (mp s)):=by
 refine AC ⟨Tryz.prog,152,Tryz.f152,29,[0,2,3,8,9],⟨[],none⟩,[],_⟩ rfl (args:=[_]) Tryz.func152 rfl (by kernel_rfl) Tryz.ntmps152 (by simp) (by kernel_rfl) ?_
 intro ν fr
 by_cases h1:s.size≤100
 rotate_left
 ·have e1:(100<(s.size:Int)):=by omega
  simp only[AF,↓AE,simprocAttr,e1]
  simp[mp,h1]
 have e1:(100<(s.size:Int))=False:=eq_false (by omega)
 simp only[AF,↓AE,simprocAttr,e1]
 obtain⟨e,l,he,hd,hle,hx⟩: ∃(e:Nat) (l:List UInt8),e=0∧s.toList.drop e=l∧e≤s.size∧mp s=l.all eH:=⟨0,_,rfl,rfl,by omega,by simp[mp,h1]⟩
 rw[show(9,some (Value.int .i64 0))=(9,some (Value.int .i64 (e:Int))) by rw[he];rfl]
 clear he fr e1
 induction l generalizing e with
 | nil=>
  have hn:e=s.size:=by
   have:=congrArg List.length hd
   rw[List.length_drop,AP]at this
   simp at this
   omega
  have lt:((e:Int)<(s.size:Int))=False:=eq_false (by omega)
  refine AR.intro (by kernel_rfl) ?_
  intro ν fr
  simp only[AF,↓AE,simprocAttr,lt]
  rw[hx];rfl
 | cons c l ih=>
  obtain⟨hp,hc,hl',hsl,hb⟩:=Bj hd
  have hcl:=CZ c
  have lt:((e:Int)<(s.size:Int))=True:=eq_true (by omega)
  have we:IntKind.i64.wrap ((e:Int)+1)=((e+1:Nat):Int):=by rw[AW (by omega) (by omega)];omega
  refine AR.intro (by kernel_rfl) ?_
  intro ν fr
  by_cases c1:c.toNat<32
  ·have k1:((c.toNat:Int)<32):=by omega
   have hcb:eH c=false:=by simp[eH];omega
   simp only[AF,↓AE,simprocAttr,lt,hb,k1]
   rw[hx,List.all_cons,hcb];rfl
  have k1:((c.toNat:Int)<32)=False:=eq_false (by omega)
  by_cases c2:126<c.toNat
  ·have k2:(126<(c.toNat:Int)):=by omega
   have hcb:eH c=false:=by simp[eH];omega
   simp only[AF,↓AE,simprocAttr,lt,hb,k1,k2]
   rw[hx,List.all_cons,hcb];rfl
  have k2:(126<(c.toNat:Int))=False:=eq_false (by omega)
  by_cases c3:c.toNat=34
  ·have k3:((c.toNat:Int)==34)=true:=by simp;omega
   have k3':((c.toNat:Int)=34)=True:=eq_true (by omega)
   have hcb:eH c=false:=by simp[eH];omega
   simp only[AF,↓AE,simprocAttr,lt,hb,k1,k2,k3]
   rw[hx,List.all_cons,hcb];rfl
  have k3:((c.toNat:Int)==34)=false:=by simp;omega
  have k3':((c.toNat:Int)=34)=False:=eq_false (by omega)
  have hcb:eH c=true:=by simp[eH];omega
  simp only[AF,↓AE,simprocAttr,lt,hb,k1,k2,k3,we]
  exact AR.weak (ih (e+1) hl' (by omega) (by rw[hx,List.all_cons,hcb,Bool.true_and])) (by simp[Ah,AO]) (SubA.refl _)
theorem OV(s:ByteArray)(hs:s.size≤9223372036854775807)(A_:AH):Ag Tryz.prog 152 #[.string s] A_=some (.bool (mp s)):=AX (BD (by kernel_rfl) (ga s hs))
theorem gX(r:Xr)(htx:r.tx.size≤9223372036854775807):AK Tryz.prog 122 #[.agg #[.int .i64 r.op,.string r.nm,.string r.tx,.int .i64 r.n,.slice r.p r.len r.cap]] [] (fun u_ _=>u_=.bool (Mn r.op r.nm r.tx r.n r.len)):=by
 refine AC ⟨Tryz.prog,122,Tryz.f122,131,[0,1,2,3,8,105],⟨[],none⟩,[],_⟩ rfl (args:=[_]) Tryz.func122 rfl (by kernel_rfl) Tryz.ntmps122 (by simp) (by kernel_rfl) ?_
 intro ν fr
 have lv:=OV r.tx htx
 have kz:((r.len:Int)=0)=(r.len=0):=propext (by omega)
 have k1:((r.len:Int)=1)=(r.len=1):=propext (by omega)
 have k2:((r.len:Int)=2)=(r.len=2):=propext (by omega)
 have k4:((r.len:Int)≤17)=(r.len≤17):=propext (by omega)
 have b4:decide ((r.len:Int)≤17)=decide (r.len≤17):=by rw[Bool.eq_iff_iff];simp;omega
 have k3:(2≤(r.len:Int))=(2≤r.len):=propext (by omega)
 have b0:((r.len:Int)==0)=decide (r.len=0):=by rw[Bool.eq_iff_iff];first|(simp;done)|(simp;omega)
 have b1:((r.len:Int)==1)=decide (r.len=1):=by rw[Bool.eq_iff_iff];first|(simp;done)|(simp;omega)
 have b2:((r.len:Int)==2)=decide (r.len=2):=by rw[Bool.eq_iff_iff];first|(simp;done)|(simp;omega)
 have bt:(r.tx.toList==[])=decide (r.tx.toList=[]):=by cases r.tx.toList<;>rfl
 by_cases o1:r.op=1
 ·cases hn:Bc r.n<;>simp only[AF,↓AE,simprocAttr,Gh,CW,o1,b0,bt,hn]
  all_goals simp only[Mn,F8,if_true,hn]
  all_goals by_cases e1:r.nm.toList=[]<;>simp[e1]
 by_cases o2:r.op=2
 ·cases hl:mp r.tx<;>simp only[AF,↓AE,simprocAttr,Gh,CW,o2,b0,bt,lv,hl]
  all_goals simp only[Mn,F8,if_true,hl]
  all_goals by_cases e1:r.nm.toList=[]<;>by_cases e3:r.n=0<;>simp[e1,e3]
 by_cases o3:r.op=3
 ·cases hl:Bp r.nm<;>simp only[AF,↓AE,simprocAttr,Gh,CW,o3,b0,bt,hl]
  all_goals simp only[Mn,F8,if_true,hl]
  all_goals by_cases e1:r.tx.toList=[]<;>by_cases e3:r.n=0<;>simp[e1,e3]
 by_cases o16:r.op=16
 ·cases hl:Bp r.nm<;>simp only[AF,↓AE,simprocAttr,Gh,CW,o16,b0,bt,hl]
  all_goals simp only[Mn,F8,hl]
  all_goals by_cases n0:1≤r.n<;>by_cases n1:r.n≤10000000<;>by_cases e1:r.tx.toList=[]<;>simp[n0,n1,e1]
 by_cases o17:r.op=17
 ·cases hl:Bp r.nm<;>simp only[AF,↓AE,simprocAttr,Gh,CW,o17,b0,bt,hl]
  all_goals simp only[Mn,F8,hl]
  all_goals by_cases n0:1≤r.n<;>by_cases n1:r.n≤10000000<;>by_cases e1:r.tx.toList=[]<;>simp[n0,n1,e1]
 have hF:Mn r.op r.nm r.tx r.n r.len=(F8 r.nm&&F8 r.tx&&decide (r.n=0)&&(if r.op=4∨r.op=5 then decide (r.len=1)else if 6≤r.op∧r.op≤14 then decide (r.len=2)else decide (r.op=15)&&decide (2≤r.len)&&decide (r.len≤17))):=by
  unfold Mn
  rw[if_neg o1,if_neg o2,if_neg o3,if_neg (by omega)]
 rw[hF]
 clear hF
 by_cases e1:r.nm.toList=[]
 rotate_left
 ·simp only[AF,↓AE,simprocAttr,Gh,CW,eq_false o1,eq_false o2,eq_false o3,eq_false o16,eq_false o17,eq_false e1]
  simp[F8,e1]
 by_cases e2:r.tx.toList=[]
 rotate_left
 ·simp only[AF,↓AE,simprocAttr,Gh,CW,eq_false o1,eq_false o2,eq_false o3,eq_false o16,eq_false o17,e1,eq_false e2]
  simp[F8,e2]
 by_cases e3:r.n=0
 rotate_left
 ·simp only[AF,↓AE,simprocAttr,Gh,CW,eq_false o1,eq_false o2,eq_false o3,eq_false o16,eq_false o17,e1,e2,eq_false e3]
  try simp[F8,e3]
 have hE:(F8 r.nm&&F8 r.tx&&decide (r.n=0))=true:=by simp[F8,e1,e2,e3]
 rw[hE,Bool.true_and]
 clear hE
 by_cases o4:r.op=4
 ·simp only[AF,↓AE,simprocAttr,Gh,CW,o4,e1,e2,e3,b1]
 by_cases o5:r.op=5
 ·simp only[AF,↓AE,simprocAttr,Gh,CW,o5,e1,e2,e3,b1]
 rw[if_neg (by omega)]
 by_cases hm:6≤r.op∧r.op≤14
 ·rw[if_pos hm]
  obtain h|h|h|h|h|h|h|h|h:r.op=6∨r.op=7∨r.op=8∨r.op=9∨r.op=10∨r.op=11∨r.op=12∨r.op=13∨r.op=14:=by omega
  all_goals simp only[AF,↓AE,simprocAttr,Gh,CW,h,e1,e2,e3,b2]
 rw[if_neg hm]
 have o6:(r.op=6)=False:=eq_false (by omega)
 have o7:(r.op=7)=False:=eq_false (by omega)
 have o8:(r.op=8)=False:=eq_false (by omega)
 have o9:(r.op=9)=False:=eq_false (by omega)
 have o10:(r.op=10)=False:=eq_false (by omega)
 have o11:(r.op=11)=False:=eq_false (by omega)
 have o12:(r.op=12)=False:=eq_false (by omega)
 have o13:(r.op=13)=False:=eq_false (by omega)
 have o14:(r.op=14)=False:=eq_false (by omega)
 by_cases o15:r.op=15
 ·by_cases g2:2≤r.len
  ·simp only[AF,↓AE,simprocAttr,Gh,CW,o15,e1,e2,e3,k3,k4,eq_true g2]
  ·simp only[AF,↓AE,simprocAttr,Gh,CW,o15,e1,e2,e3,k3,k4,eq_false g2]
 ·simp only[AF,↓AE,simprocAttr,Gh,CW,eq_false o1,eq_false o2,eq_false o3,eq_false o4,eq_false o5,eq_false o16,eq_false o17,o6,o7,o8,o9,o10,o11,o12,o13,o14,eq_false o15,e1,e2,e3]
theorem OU(r:Xr)(htx:r.tx.size≤9223372036854775807)(A_:AH):Ag Tryz.prog 122 #[.agg #[.int .i64 r.op,.string r.nm,.string r.tx,.int .i64 r.n,.slice r.p r.len r.cap]] A_=some (.bool (Mn r.op r.nm r.tx r.n r.len)):=AX (BD (by kernel_rfl) (gX r htx))
set_option maxHeartbeats 4000000
set_option maxRecDepth 20000
theorem UD(n:Nat): ∀l:List Xs,px l n=l.any fun x=>Mm x n
 | []=>by simp[px]
 |x::l=>by simp[px,UD n l]
theorem JW: ∀l:List Xs,mJ l=l.all HX
 | []=>by simp[mJ]
 |x::l=>by simp[mJ,JW l]
theorem gP(A:AH)(op n:Int)(nm tx:ByteArray)(args:List Xs)(p:Option Addr)(cap:Nat)(rs:List Xr)(hl:args.length≤140737488355328)(hrs:rs.length=args.length)(hS:B5 Ba 5 A p rs)(m:Nat)(hm:m≤1000)(ih: ∀(k:Nat) (x:Xs) (r:Xr),args[k]? =some x→rs[k]? =some r→ ∀m:Nat,m≤1000→ ∀B,SubA A B→Ag Tryz.prog 85 #[Bt r,.int .i64 (m:Int)] B=some (.bool (Mm x m))):AK Tryz.prog 85 #[.agg #[.int .i64 op,.string nm,.string tx,.int .i64 n,.slice p args.length cap],.int .i64 (m:Int)] A (fun u_ A_=>u_=.bool (Mm (.mk op nm tx n args) m)∧SubA A A_):=by
 refine AC ⟨Tryz.prog,85,Tryz.f85,21,[0,1,2,4,6,10,11,12],⟨[],none⟩,[],_⟩ rfl (args:=[_,_]) Tryz.func85 rfl (by kernel_rfl) Tryz.ntmps85 (by simp) (by kernel_rfl) ?_
 intro ν fr
 have f0:=fr.2 0
 cases m with
 |zero=>
  simp only[AF,↓AE,simprocAttr,fr.2]
  rfl
 | succ m=>
  have lt1:(((m+1:Nat):Int)<1)=False:=eq_false (by omega)
  have wm:IntKind.i64.wrap (((m+1:Nat):Int) - 1)=(m:Int):=by rw[AW (by omega) (by omega)];omega
  have hw:Mm (.mk op nm tx n args) (m+1)=args.any fun x=>Mm x m:=by rw[Mm,UD]
  rw[hw]
  simp only[AF,↓AE,simprocAttr,fr.2,lt1]
  have dst_:True:=(by simp[]);generalize ν 0=n1 at dst_  f0⊢
  clear fr hw
  obtain⟨e,l,he,hd,hle,hx⟩: ∃(e:Nat) (l:List Xs),e=0∧l=args.drop e∧e≤args.length∧(args.any fun x=>Mm x m)=l.any fun x=>Mm x m:=⟨0,_,rfl,rfl,by omega,rfl⟩
  rw[hx]
  rw[show(12,some (Value.int .i64 0))=(12,some (Value.int .i64 (e:Int))) by rw[he];rfl]
  clear he hx
  induction l generalizing e with
  |nil=>
   obtain⟨hn1,hn2⟩:=drop_nil hd hle
   have lt:((e:Int)<(args.length:Int))=False:=eq_false (by omega)
   refine AR.intro (by kernel_rfl) ?_
   intro ν fr
   simp only[AF,↓AE,simprocAttr,lt]
   exact⟨rfl,SubA.fresh f0 (SubA.refl _)⟩
  | cons x l ihl=>
   obtain⟨ha,hlt,hd',htk⟩:=Be hd
   have lt:((e:Int)<(args.length:Int))=True:=eq_true (by omega)
   have li:((e:Int)<0)=False:=eq_false (by omega)
   have we:IntKind.i64.wrap ((e:Int)+1)=((e+1:Nat):Int):=by rw[AW (by omega) (by omega)];omega
   obtain⟨s,hs⟩: ∃s,rs[e]? =some s:=⟨_,List.getElem?_eq_getElem (by omega)⟩
   obtain⟨bk,off,cs,ty,fr0,hp0,hbk,hcr,hcc⟩:=hS.at hs
   subst hp0
   simp only[Ba]at hcr
   obtain⟨q1,q2⟩:=AU f0 hbk
   refine AR.intro (by kernel_rfl) ?_
   intro ν fr
   have f1:=fr.2 0
   have iv:=fun o=>ih e x s ha hs m (by omega) ((ν 0,o)::(n1,.cells #[.int .i64 op,.string nm,.string tx,.int .i64 n,.slice (some ⟨bk,off,none⟩) args.length cap] 60)::A) (SubA.fresh f1 (SubA.fresh f0 (SubA.refl _)))
   simp only[Bt,Ba]at iv
   cases hw:Mm x m with
   |false=>
    rw[hw]at iv
    simp only[AF,↓AE,simprocAttr,lt,wm,hbk,hcr,q1,iv,we]
    have hc:((x::l).any fun x=>Mm x m)=l.any fun x=>Mm x m:=by simp[hw]
    rw[hc]
    exact AR.weak (ihl (e+1) hd' (by omega)) (by simp[Ah,AO]) (SubA.fresh f1 (SubA.refl _))
   |true=>
    rw[hw]at iv
    simp only[AF,↓AE,simprocAttr,lt,wm,hbk,hcr,q1,iv,we]
    exact⟨by simp[hw],SubA.fresh f1 (SubA.fresh f0 (SubA.refl _))⟩
theorem gQ(A:AH)(op n:Int)(nm tx:ByteArray)(args:List Xs)(p:Option Addr)(cap:Nat)(rs:List Xr)(hl:args.length≤140737488355328)(hrs:rs.length=args.length)(hS:B5 Ba 5 A p rs)(m:Nat)(hm:m≤1000)(ih: ∀(k:Nat) (x:Xs) (r:Xr),args[k]? =some x→rs[k]? =some r→ ∀m:Nat,m≤1000→ ∀B,SubA A B→Ag Tryz.prog 85 #[Bt r,.int .i64 (m:Int)] B=some (.bool (Mm x m)))(B_:AH)(hB_:SubA A B_):Ag Tryz.prog 85 #[.agg #[.int .i64 op,.string nm,.string tx,.int .i64 n,.slice p args.length cap],.int .i64 (m:Int)] B_=some (.bool (Mm (.mk op nm tx n args) m)):=AX (Aj (by kernel_rfl) (gP A op n nm tx args p cap rs hl hrs hS m hm ih) hB_)
theorem py{A:AH}{t:Xs}{r:Xr}(h:ExR A t r): ∀m:Nat,m≤1000→ ∀B,SubA A B→Ag Tryz.prog 85 #[Bt r,.int .i64 (m:Int)] B=some (.bool (Mm t m)):=by
 induction h with
 | @mk op n nm tx args p cap rs h0 h0' h1 h2 h3 ih=>
  intro m hm B hB
  exact gQ A op n nm tx args p cap rs h0 h1 h2 m hm (fun k x r hx hr m hm C hC=>ih k x r hx hr m hm C hC) B hB
inductive SzT:Xs→Prop
 |mk {op n:Int} {nm tx:ByteArray} {args:List Xs}:nm.size≤9223372036854775807→tx.size≤9223372036854775807→(∀x∈args,SzT x)→SzT (.mk op nm tx n args)
theorem gV(A:AH)(op n:Int)(nm tx:ByteArray)(args:List Xs)(p:Option Addr)(cap:Nat)(rs:List Xr)(hl:args.length≤140737488355328)(hrs:rs.length=args.length)(hS:B5 Ba 5 A p rs)(htx:tx.size≤9223372036854775807)(ih: ∀(k:Nat) (x:Xs) (r:Xr),args[k]? =some x→rs[k]? =some r→ ∀B,SubA A B→Ag Tryz.prog 86 #[Bt r] B=some (.bool (HX x))):AK Tryz.prog 86 #[.agg #[.int .i64 op,.string nm,.string tx,.int .i64 n,.slice p args.length cap]] A (fun u_ A_=>u_=.bool (HX (.mk op nm tx n args))∧SubA A A_):=by
 refine AC ⟨Tryz.prog,86,Tryz.f86,19,[0,1,2,4,9,10,11],⟨[],none⟩,[],_⟩ rfl (args:=[_]) Tryz.func86 rfl (by kernel_rfl) Tryz.ntmps86 (by simp) (by kernel_rfl) ?_
 intro ν fr
 have f0:=fr.2 0
 have hv:=OU ⟨op,nm,tx,n,p,args.length,cap⟩ htx
 simp only[]at hv
 have hw:HX (.mk op nm tx n args)=(Mn op nm tx n args.length&&args.all HX):=by rw[HX,JW]
 rw[hw]
 cases hf:Mn op nm tx n args.length with
 |false=>
  rw[hf]at hv
  simp only[AF,↓AE,simprocAttr,fr.2,hv]
 | true=>
  rw[hf]at hv
  simp only[AF,↓AE,simprocAttr,fr.2,hv]
  have dst_:True:=(by simp[]);generalize ν 0=n1 at dst_  f0⊢
  clear fr hv hf hw
  obtain⟨e,l,he,hd,hle,hx⟩: ∃(e:Nat) (l:List Xs),e=0∧l=args.drop e∧e≤args.length∧(true&&args.all HX)=l.all HX:=⟨0,_,rfl,rfl,by omega,rfl⟩
  rw[hx]
  rw[show(11,some (Value.int .i64 0))=(11,some (Value.int .i64 (e:Int))) by rw[he];rfl]
  clear he hx
  induction l generalizing e with
  |nil=>
   obtain⟨hn1,hn2⟩:=drop_nil hd hle
   have lt:((e:Int)<(args.length:Int))=False:=eq_false (by omega)
   refine AR.intro (by kernel_rfl) ?_
   intro ν fr
   simp only[AF,↓AE,simprocAttr,lt]
   exact⟨rfl,SubA.fresh f0 (SubA.refl _)⟩
  | cons x l ihl=>
   obtain⟨ha,hlt,hd',htk⟩:=Be hd
   have lt:((e:Int)<(args.length:Int))=True:=eq_true (by omega)
   have li:((e:Int)<0)=False:=eq_false (by omega)
   have we:IntKind.i64.wrap ((e:Int)+1)=((e+1:Nat):Int):=by rw[AW (by omega) (by omega)];omega
   obtain⟨s,hs⟩: ∃s,rs[e]? =some s:=⟨_,List.getElem?_eq_getElem (by omega)⟩
   obtain⟨bk,off,cs,ty,fr0,hp0,hbk,hcr,hcc⟩:=hS.at hs
   subst hp0
   simp only[Ba]at hcr
   obtain⟨q1,q2⟩:=AU f0 hbk
   refine AR.intro (by kernel_rfl) ?_
   intro ν fr
   have f1:=fr.2 0
   have iv:=fun o=>ih e x s ha hs ((ν 0,o)::(n1,.cells #[.int .i64 op,.string nm,.string tx,.int .i64 n,.slice (some ⟨bk,off,none⟩) args.length cap] 60)::A) (SubA.fresh f1 (SubA.fresh f0 (SubA.refl _)))
   simp only[Bt,Ba]at iv
   cases hw:HX x with
   |true=>
    rw[hw]at iv
    simp only[AF,↓AE,simprocAttr,lt,hbk,hcr,q1,iv,we]
    have hc:(x::l).all HX=l.all HX:=by simp[hw]
    rw[hc]
    exact AR.weak (ihl (e+1) hd' (by omega)) (by simp[Ah,AO]) (SubA.fresh f1 (SubA.refl _))
   |false=>
    rw[hw]at iv
    simp only[AF,↓AE,simprocAttr,lt,hbk,hcr,q1,iv,we]
    exact⟨by simp[hw],SubA.fresh f1 (SubA.fresh f0 (SubA.refl _))⟩
theorem gW(A:AH)(op n:Int)(nm tx:ByteArray)(args:List Xs)(p:Option Addr)(cap:Nat)(rs:List Xr)(hl:args.length≤140737488355328)(hrs:rs.length=args.length)(hS:B5 Ba 5 A p rs)(htx:tx.size≤9223372036854775807)(ih: ∀(k:Nat) (x:Xs) (r:Xr),args[k]? =some x→rs[k]? =some r→ ∀B,SubA A B→Ag Tryz.prog 86 #[Bt r] B=some (.bool (HX x)))(B_:AH)(hB_:SubA A B_):Ag Tryz.prog 86 #[.agg #[.int .i64 op,.string nm,.string tx,.int .i64 n,.slice p args.length cap]] B_=some (.bool (HX (.mk op nm tx n args))):=AX (Aj (by kernel_rfl) (gV A op n nm tx args p cap rs hl hrs hS htx ih) hB_)
theorem pz{A:AH}{t:Xs}{r:Xr}(h:ExR A t r):SzT t→ ∀B,SubA A B→Ag Tryz.prog 86 #[Bt r] B=some (.bool (HX t)):=by
 induction h with
 | @mk op n nm tx args p cap rs h0 h0' h1 h2 h3 ih=>
  rintro(⟨z1,z2,z3⟩) B hB
  exact gW A op n nm tx args p cap rs h0 h1 h2 z2 (fun k x r hx hr C hC=>ih k x r hx hr (z3 x (List.mem_of_getElem? hx)) C hC) B hB
set_option maxHeartbeats 4000000
set_option maxRecDepth 20000
def WO:List Ft→List Ft→Bool
 |_,[]=>true
 |d,f::l=>Bp f.nm&&Ei f&&(QL f.nm d).isNone&&WO (d++[f]) l
def QH(fs:List Ft):HN:=fs.map fun f=>(f.nm,kf f)
theorem G5(nm:ByteArray): ∀fs:List Ft,EO (QH fs) nm=(QL nm fs).map kf
 | []=>rfl
 | f::l=>by
  have ih:=G5 nm l
  unfold EO at ih⊢
  simp only[QH,List.map_cons,GN,QL]at ih⊢
  by_cases h:f.nm.toList=nm.toList
  ·rw[if_pos h,if_pos (DD h).symm];rfl
  ·rw[if_neg h,if_neg (fun e=>h (by rw[e]))]
   rw[←ih]
   cases GN (List.map (fun f=>(f.nm,kf f)) l) nm<;>rfl
theorem kQ{f:Ft}{d:List Ft}(h:QL f.nm d=none):K5 (QH d) f.nm (kf f)=QH (d++[f]):=by
 have h1:=G5 f.nm d
 rw[h]at h1
 unfold EO at h1
 unfold K5
 cases hp:GN (QH d) f.nm with
 |none=>simp[QH]
 |some p=>rw[hp]at h1;cases h1
theorem UL(f:Ft):(Kg f).length=4:=rfl
theorem PQ:Tryz.prog.underlying 145=some (.map 9 94):=by kernel_rfl
theorem PR:Tryz.prog.underlying 9=some .string:=by kernel_rfl
theorem Nb(A:AH)(fs:List Ft)(p:Option Addr)(cap:Nat)(hS:B5 Kg 4 A p fs)(hl:fs.length≤1000)(hg:WO [] fs=true):AK Tryz.prog 84 #[.slice p fs.length cap] A (fun u_ A_=> ∃mb es cl,u_=.tuple #[.map (some mb),.int .i64 0]∧DK es (QH fs)∧Vm.AA A mb=none∧SubA ((mb,.map es cl)::A) A_):=by
 refine AC ⟨Tryz.prog,84,Tryz.f84,61,[0,2,3,4,6,8,10,11,12],⟨[],none⟩,[],_⟩ rfl (args:=[_]) Tryz.func84 rfl (by kernel_rfl) Tryz.ntmps84 (by simp) (by kernel_rfl) ?_
 intro ν fr
 have f0:=fr.2 0
 simp only[AF,↓AE,simprocAttr]
 have dst_:True:=(by simp[]);generalize ν 0=mb at dst_  f0⊢
 clear fr dst_
 obtain⟨e,l,es,cl,he,hd,hle,hes,hcl,hm,hgd⟩: ∃(e:Nat) (l:List Ft) (es:Array MapEntry) (cl:Nat),e=0∧l=fs.drop e∧e≤fs.length∧es= #[]∧cl=0∧DK es (QH (fs.take e))∧WO (fs.take e) l=true:=⟨0,_,#[],0,rfl,rfl,by omega,rfl,rfl,rfl,hg⟩
 rw[show(12,some (Value.int .i64 0))=(12,some (Value.int .i64 (e:Int))) by rw[he];rfl]
 refine AR.at (A:=(mb,.map es cl)::A) (by rw[hes,hcl];exact SubA.refl _) ?_
 clear he hes hcl
 induction l generalizing e es cl with
 |nil=>
  obtain⟨hn1,hn2⟩:=drop_nil hd hle
  have lt:((e:Int)<(fs.length:Int))=False:=eq_false (by omega)
  rw[hn2]at hm
  refine AR.intro (by kernel_rfl) ?_
  intro ν fr
  simp only[AF,↓AE,simprocAttr,lt]
  exact⟨mb,es,cl,rfl,hm,f0,SubA.refl _⟩
 | cons f l ih=>
  obtain⟨ha,hlt,hd',htk⟩:=Be hd
  have lt:((e:Int)<(fs.length:Int))=True:=eq_true (by omega)
  have li:((e:Int)<0)=False:=eq_false (by omega)
  have we:IntKind.i64.wrap ((e:Int)+1)=((e+1:Nat):Int):=by rw[AW (by omega) (by omega)];omega
  obtain⟨bk,off,cs,ty,fr0,hp0,hbk,hcr,hcc⟩:=hS.at ha
  subst hp0
  simp only[Kg]at hcr
  obtain⟨q1,q2⟩:=AU f0 hbk
  simp only[WO,Bool.and_eq_true]at hgd
  obtain⟨⟨⟨hnm,hok⟩,hno⟩,hrest⟩:=hgd
  have hno':QL f.nm (fs.take e)=none:=by simpa using hno
  have lkv:EO (QH (fs.take e)) f.nm=none:=by rw[G5,hno'];rfl
  refine AR.intro (by kernel_rfl) ?_
  intro ν fr;have nuE:=fr.m1 rfl
  have f6:=fr.2 0
  have f7:=fr.2 1
  have n67:(ν 1=ν 0)=False:=by simp[nuE]
  have lk:=fun o=>GO (s:=f.nm) (A:=(ν 0,o)::(mb,.map es cl)::A) (ok:=true) (es:=es) (cl:=cl) (r:=mb) PQ PR eF (by simp[Vm.AA,nuE]) hm
  rw[lkv]at lk
  simp only[Option.getD_none,Option.isSome_none,if_true]at lk
  have hk:f.k=2∨(f.k≠2∧f.k=1∧Bc f.n=true)∨(f.k≠2∧f.k≠1∧f.k=3∧f.n=0)∨(f.k≠2∧f.k≠1∧f.k=3∧f.n≠0∧f.n=1):=by
   simp only[Ei,Bool.or_eq_true,Bool.and_eq_true,decide_eq_true_eq]at hok
   rcases hok with(h|h)|h
   ·exact .inl h
   ·exact .inr (.inl ⟨by omega,h⟩)
   ·by_cases h0:f.n=0
    ·exact .inr (.inr (.inl ⟨by omega,by omega,h.1,h0⟩))
    ·exact .inr (.inr (.inr ⟨by omega,by omega,h.1,h0,by rcases h.2 with h2|h2<;>omega⟩))
  rcases hk with h2|⟨h2,h1,hn⟩|⟨h2,h1,h3,h0⟩|⟨h2,h1,h3,h0,hn⟩
  simp only[AF,↓AE,simprocAttr,nuE,Gh,lt,hbk,q1,hcr,hnm,lk,h2]
  rotate_left
  simp only[AF,↓AE,simprocAttr,nuE,Gh,CW,lt,hbk,q1,hcr,hnm,lk,h1,hn]
  rotate_left
  simp only[AF,↓AE,simprocAttr,nuE,Gh,lt,hbk,q1,hcr,hnm,lk,h3,h0]
  rotate_left
  simp only[AF,↓AE,simprocAttr,nuE,Gh,lt,hbk,q1,hcr,hnm,lk,h3,hn]
  all_goals
   have dst_:((ν 0=ν 1)=False)∧((ν 0=mb)=False)∧((ν 1=ν 0)=False)∧((ν 1=mb)=False)∧((mb=ν 0)=False)∧((mb=ν 1)=False):=(by simp[nuE]);generalize ν 0=n6 at dst_  f6 f7 n67 lk ⊢;generalize ν 1=n7 at dst_  f6 f7 n67 lk⊢
   clear nuE fr lk
   have d6:=dst_
   obtain⟨d71,d72⟩:(n7=mb)=False∧(mb=n7)=False:=AU f7 (show Vm.AA ((mb,Obj.map es cl)::A) mb=some (Obj.map es cl) by simp[Vm.AA])
   obtain⟨d61,d62⟩:(n6=mb)=False∧(mb=n6)=False:=AU f6 (show Vm.AA ((mb,Obj.map es cl)::A) mb=some (Obj.map es cl) by simp[Vm.AA])
   have g6:Vm.AA A n6=none:=(SubA.skip f0 (SubA.refl A)).none f6
   have g7:Vm.AA A n7=none:=(SubA.skip f0 (SubA.refl A)).none f7
   refine N0 (es:=es) (cl:=cl) (r:=mb) PQ PR (by simp[Vm.AA,d61,d71]) hm ?_
   intro es' cl' hm'
   simp only[Dw,d61,d71,if_false,if_true]
   intro ν fr
   simp only[AF,↓AE,simprocAttr,we]
   exact AR.weak (ih (e+1) es' cl' hd' (by omega) (by rw[htk,←kQ hno'];unfold kf;first|(rw[h2];exact hm')|(rw[h1];exact hm')|(rw[h3,h0];exact hm')|(rw[h3,hn];exact hm')) (by rw[htk];exact hrest)) (by simp[Ah,AO]) (SubA.skip (AJ d72 g7) (SubA.skip (AJ d62 g6) (SubA.refl _)))
set_option maxHeartbeats 8000000
set_option maxRecDepth 20000
theorem bi{P:Program}{t e:TypeId}{size bytes n:Nat}{z:Value}{A:AH}{K:Value→AH→Prop}(hs:MW P t=some (e,size,bytes))(hz:JA P e=some z)(hz1:z.cells= #[z])(hs1:size=1)(hb:bytes*n≤140737488355328)(hn:n≤maxLen)
  (hK: ∀g,Vm.AA A g=none→K (.slice (some ⟨g,0,none⟩) n n) ((g,.cells (List.replicate n z).toArray e)::A)):
  Fv P (Instr.makeSlice t (.int .i64 (n:Int)) (.int .i64 (n:Int))) A K:=by
 intro h hA w hw
 subst hw
 obtain⟨ht,i,hi,e1,e2⟩:=EC hs
 have hz':i.zero=some z:=by unfold JA at hz;rw[hi]at hz;exact hz
 simp only at e1 e2
 subst e1
 subst e2
 have hb':(i.bytes:Int)*(n:Int)≤281474976710656:=by
  have h:((i.bytes*n:Nat):Int)≤281474976710656:=by omega
  rwa [Int.natCast_mul]at h
 have hr:=run_make (P:=P) w t e i z ht hi hz' .i64 .i64 (n:Int) (n:Int) (by omega) (by omega) hb' (by simp only[maxLen]at hn;omega)
 refine⟨_,_,hr,⟨rfl,rfl,rfl⟩,_,hA.push,BN.push, ?_⟩
 have hm:madeCells z.cells (n*i.size)=(List.replicate n z).toArray:=by
  rw[hz1,hs1,Nat.mul_one,←toList_madeCells_one,Array.toArray_toList]
 simp only[Int.toNat_natCast,hm]
 exact hK _ (hA.none_of_size (Nat.le_refl _))
def iC(k:Int):List Value:=[.int .i64 k]
theorem gN(A:AH)(ks:List Int)(p:Option Addr)(cap:Nat)(hS:B5 iC 1 A p ks)(hl:ks.length≤1000000)(k:Int):AK Tryz.prog 123 #[.slice p ks.length cap,.int .i64 k] A (fun u_ A_=>u_=.bool (Fw ks k)∧SubA A A_):=by
 refine AC ⟨Tryz.prog,123,Tryz.f123,17,[0,1,4,6,7,8,9],⟨[],none⟩,[],_⟩ rfl (args:=[_,_]) Tryz.func123 rfl (by kernel_rfl) Tryz.ntmps123 (by simp) (by kernel_rfl) ?_
 intro ν fr
 simp only[AF,↓AE,simprocAttr]
 clear fr
 obtain⟨e,l,he,hd,hle,hx⟩: ∃(e:Nat) (l:List Int),e=0∧l=ks.drop e∧e≤ks.length∧Fw ks k=l.all fun x=>decide (x=k):=⟨0,_,rfl,rfl,by omega,rfl⟩
 rw[hx]
 rw[show(9,some (Value.int .i64 0))=(9,some (Value.int .i64 (e:Int))) by rw[he];rfl]
 clear he hx
 induction l generalizing e with
 |nil=>
  obtain⟨hn1,hn2⟩:=drop_nil hd hle
  have lt:((e:Int)<(ks.length:Int))=False:=eq_false (by omega)
  refine AR.intro (by kernel_rfl) ?_
  intro ν fr
  simp only[AF,↓AE,simprocAttr,lt]
  rfl
 | cons x l ihl=>
  obtain⟨ha,hlt,hd',htk⟩:=Be hd
  have lt:((e:Int)<(ks.length:Int))=True:=eq_true (by omega)
  have li:((e:Int)<0)=False:=eq_false (by omega)
  have we:IntKind.i64.wrap ((e:Int)+1)=((e+1:Nat):Int):=by rw[AW (by omega) (by omega)];omega
  obtain⟨bk,off,cs,ty,fr0,hp0,hbk,hcr,hcc⟩:=hS.at ha
  have c0:cs[off+e*1]? =some (.int .i64 x):=hcc 0 _ rfl
  subst hp0
  refine AR.intro (by kernel_rfl) ?_
  intro ν fr
  by_cases hk:x=k
  ·have hk':(x !=k)=false:=by simp[hk]
   simp only[AF,↓AE,simprocAttr,lt,we,hbk,c0,hk]
   have hc:((x::l).all fun x=>decide (x=k))=l.all fun x=>decide (x=k):=by simp[hk]
   rw[hc]
   exact AR.weak (ihl (e+1) hd' (by omega)) (by simp[Ah,AO]) (SubA.refl _)
  ·have hk':(x !=k)=true:=by simp[hk]
   simp only[AF,↓AE,simprocAttr,lt,we,hbk,c0,hk']
   simp[hk]
theorem gO(A:AH)(ks:List Int)(p:Option Addr)(cap:Nat)(hS:B5 iC 1 A p ks)(hl:ks.length≤1000000)(k:Int)(B_:AH)(hB_:SubA A B_):Ag Tryz.prog 123 #[.slice p ks.length cap,.int .i64 k] B_=some (.bool (Fw ks k)):=AX (Aj (by kernel_rfl) (gN A ks p cap hS hl k) hB_)
end Go.Proofs.YtgmfcdeknaeikaaGreatDoor
