/-
Lists of texts, names, printed lexemes scanned, calls beside others, arguments opened.
Conditions: none.
-/
import Derived.Test.YtfphceknmgadgaaGreatDoorVmAR
import Derived.Test.YtfphceknmgadgaaGreatDoorTy
import Derived.Test.YtfphceknmgadgaaGreatDoorQy
import Derived.Lib.ItoaNum
import Derived.Test.YtfphceknmgadgaaGreatDoorQx
import Derived.Lib.Join
set_option linter.unusedSimpArgs false
set_option linter.unusedVariables false
namespace Go.Proofs.YtfphceknmgadgaaGreatDoor
open Go.Vm
set_option maxHeartbeats 1000000
set_option maxRecDepth 20000
theorem Un:type_of% (An @AF (An @AM (An @AN (An @AE (An @AG (An @AO (An @Aa (An @AL (An @Al (An @Ax (An @Ap (An @Ay (An @BT (An @BC (An @BG (An @BO @BZ)))))))))))))))):=⟨@AF,@AM,@AN,@AE,@AG,@AO,@Aa,@AL,@Al,@Ax,@Ap,@Ay,@BT,@BC,@BG,@BO,@BZ⟩
def bs(l:List UInt8):ByteArray:=⟨l.toArray⟩
theorem BS(l:List UInt8):(bs l).toList=l:=by rw[ByteArray.toList_eq];rfl
theorem Ao(l:List UInt8):(bs l).size=l.length:=by simp[bs,ByteArray.size]
theorem EV(l:List UInt8):(bs l).data.toList=l:=rfl
theorem F9{a b:ByteArray}(h:a.data.toList=b.data.toList):a=b:=by
 obtain⟨⟨a⟩⟩:=a;obtain⟨⟨b⟩⟩:=b;simp at h;rw[h]
theorem C6(a b:List UInt8):bs a++bs b=bs (a++b):=F9 (by simp[bs])
theorem QS(s:ByteArray):s=bs s.data.toList:=F9 rfl
theorem HS: ∀(w n:Nat),0<w→n<10 ^ w→(Lib.decDigits n).length≤w
 |0,_,h,_=>by omega
 | w+1,n,_,h=>by
  rw[Lib.decDigits]
  split
  ·simp
  ·rename_i hn
   have hw:0<w:=by
    cases w with
    |zero=>simp at h;omega
    |succ w=>omega
   have:=HS w (n / 10) hw (by rw[Nat.pow_succ]at h;omega)
   simp
   omega
end Go.Proofs.YtfphceknmgadgaaGreatDoor
namespace Go.Proofs.YtfphceknmgadgaaGreatDoor
open Go.Vm
set_option maxHeartbeats 1000000
set_option maxRecDepth 20000
abbrev Txt:=List UInt8
theorem DH{α:Type}{L l:List α}{e:Nat}{a:α}(h3:a::l=L.drop e):L[e]? =some a∧e<L.length∧l=L.drop (e+1)∧L.take (e+1)=L.take e++[a]:=by
 have ha:L[e]? =some a:=by
  have:=congrArg (fun x=>x[0]?) h3
  simpa using this.symm
 refine⟨ha,(List.getElem?_eq_some_iff.1 ha).1, ?_, ?_⟩
 ·have:=congrArg (fun x=>x.drop 1) h3
  simpa[List.drop_drop,Nat.add_comm]using this
 ·rw[List.take_add_one,ha];rfl
theorem drop_nil{α:Type}{L:List α}{e:Nat}(h3:[]=L.drop e)(he:e≤L.length):L.length=e∧L.take e=L:=by
 rcases Nat.lt_or_ge e L.length with h|h
 ·rw[List.drop_eq_getElem_cons h]at h3;cases h3
 ·have:e=L.length:=by omega
  exact⟨this.symm,by rw[this,List.take_length]⟩
def cf(t:Txt):List Value:=[.string (bs t)]
theorem ko(t:Txt):(cf t).length=1:=rfl
theorem E8.take{α:Type}{f:α→List Value}{n:Nat}{A:AH}{p:Option Addr}{L:List α}(h:E8 f n A p L)(i:Nat):E8 f n A p (L.take i):=by
 rcases h with h|⟨b,off,cs,e,fr,h1,h2,h3⟩
 ·exact .inl (by rw[h];simp)
 ·refine .inr ⟨b,off,cs,e,fr,h1,h2,fun j a hj=>h3 j a ?_⟩
  rw[List.getElem?_take]at hj
  split at hj
  ·exact hj
  ·cases hj
def oB(A:AH)(p:Option Addr)(cap:Nat)(T:List Txt):Prop:=E8 cf 1 A p T∧T.length≤cap∧cap≤9223372036854775807
theorem oB.mono{A B:AH}{p:Option Addr}{cap:Nat}{T:List Txt}(h:oB A p cap T)(hs:SubA A B):oB B p cap T:=⟨h.1.mono hs,h.2⟩
theorem oB.nil{A:AH}:oB A none 0 []:=⟨E8.nil,by simp,by omega⟩
theorem oB.isNone{A:AH}{p:Option Addr}{cap:Nat}{T:List Txt}(h:oB A p cap T)(hp:p.isNone=true):T=[]:=by
 rcases h.1 with h|⟨b,off,cs,e,fr,rfl,_⟩
 ·exact h
 ·cases hp
theorem oB.at(b:Nat)(e:TypeId)(T:List Txt)(h:T.length≤9223372036854775807):oB [(b,.cells (T.flatMap cf).toArray e)] (some ⟨b,0,none⟩) T.length T:=by
 have o:D0 cf 1 e (.slice (some ⟨b,0,none⟩) T.length T.length) [(b,.cells (T.flatMap cf).toArray e)] T:=.inl (GB.at (by rw[H3 cf 1 (fun _=>rfl)]) (by simpa only[maxLen]using h))
 obtain⟨p,cap,h1,h2,h3⟩:=o.read ko
 cases h1
 exact⟨h3,h2,h⟩
theorem _root_.Go.Vm.Dis.subr{D X Y:AH}(d:Dis D Y)(h:SubA X Y):Dis D X:=fun x hx=>d x fun hn=>by
 cases hl:Vm.AA X x with
 |none=>exact hx hl
 |some o=>rw[h x o hl]at hn;cases hn
theorem Ak.new{P:Program}{g:FuncId}{args:Array Value}{A A0:AH}{R:Value→AH→Prop}{K:Value→AH→Prop}(hc:Ak P g args A0 fun u D=> ∃v B,u=v∧R v B∧Dis B A0∧SubA (B++A0) D)(hs:SubA A0 A)
  (hk: ∀v B,R v B→Dis B A→K v (B++A)):Ak P g args A K:=by
 have h1:Ak P g args A fun v D=> ∃B,R v B∧Dis B A∧SubA (B++A) D:=by
  refine Ak.go hc hs (fun v D ⟨u,B,_,_,h2,h3⟩=>SubA.trans h2.right h3) ?_
  rintro v D A' ⟨u,B,rfl,h0,h2,h3⟩ hD hA hx
  have hd:Dis B A:=fun x hxa=>by
   cases hb:Vm.AA B x with
   |none=>rfl
   | some o=>
    have e1:Vm.AA D x=some o:=h3 _ _ (SubA.left B A0 _ _ hb)
    have e2:Vm.AA A0 x=none:=by
     cases h0:Vm.AA A0 x with
     |none=>rfl
     |some o2=>have:=h2 x (by rw[h0];simp);rw[hb]at this;cases this
    exact absurd (hx x (by rw[e1];simp) e2) hxa
  exact⟨B,h0,hd,SubA.both (SubA.trans (SubA.trans (SubA.left B A0) h3) hD) hA⟩
 refine Ak.use h1 (SubA.refl A) (fun v D ⟨B,_,hd,h3⟩ b hb=> ?_) [] (SubA.nil _) (fun x hx=>absurd rfl hx) (fun v D ⟨B,h0,hd,h3⟩ _=>⟨B++A,h3,by rw[List.append_nil];exact hk v B h0 hd⟩)
 cases hl:Vm.AA A b with
 |none=>exact absurd hl hb
 |some o=>rw[h3 _ _ (hd.right _ _ hl)];simp
theorem Ak.newX{P:Program}{g:FuncId}{args:Array Value}{A A0:AH}{R:Value→AH→Prop}{K:Value→AH→Prop}(hc:Ak P g args A0 fun u D=> ∃v B,u=v∧R v B∧Dis B A0∧SubA (B++A0) D)(hs:SubA A0 A)
  (hk: ∀v B,R v B→Dis B A→ ∃A'',SubA A'' (B++A)∧K v A''):Ak P g args A K:=by
 refine Ak.use (K0:=fun v D=> ∃B,R v B∧Dis B A∧D=B++A) (Ak.new hc hs fun v B h0 hd=>⟨B,h0,hd,rfl⟩) (SubA.refl A) (fun v D ⟨B,_,hd,h3⟩ b hb=> ?_) [] (SubA.nil _) (fun x hx=>absurd rfl hx) (fun v D ⟨B,h0,hd,h3⟩ _=> ?_)
 ·cases hl:Vm.AA A b with
  |none=>exact absurd hl hb
  |some o=>rw[h3,hd.right _ _ hl];simp
 ·obtain⟨A'',h4,h5⟩:=hk v B h0 hd
  exact⟨A'',by rw[h3];exact h4,by rw[List.append_nil];exact h5⟩
theorem jA{B X:AH}{x:Nat}{o:Obj}(h:Vm.AA B x=none):SubA ((x,o)::(B++X)) (B++((x,o)::X)):=fun b u hl=>by
 simp only[Vm.AA]at hl
 rw[B5]
 split at hl
 ·rename_i e;subst e;rw[h];simp[Vm.AA,hl]
 ·rename_i e
  rw[B5]at hl
  cases hb:Vm.AA B b with
  |some w=>rw[hb]at hl;exact hl
  |none=>rw[hb]at hl;simp only[Vm.AA,e,if_false];exact hl
end Go.Proofs.YtfphceknmgadgaaGreatDoor
namespace Go.Proofs.YtfphceknmgadgaaGreatDoor
open Go.Vm
set_option maxHeartbeats 1000000
set_option maxRecDepth 20000
def DS(s:ByteArray):Bool:=decide (0<s.size)&&(decide (s.size≤16)&&((match s.toList with|c::_=>Ca c.toNat| []=>false)&&decide (BW s.toList=s.size)))
theorem FO{s:ByteArray}(h:s.size=0):s.toList=[]:=by
 have:=Ah s
 rw[h]at this
 exact List.eq_nil_of_length_eq_zero this
theorem Wg: ∀c,c<256→(GF c=2∧Ca c=true)∨(GF c≠2∧Ca c=false):=by decide+kernel
theorem UX(s:ByteArray)(h:AX):CallsH Tryz.prog 67 #[.string s] h fun r h'=>r=.returned (.bool (DS s))∧h'=h:=by
 refine BU ⟨Tryz.prog,67,Tryz.f67,23,[0,2],_⟩ (args:=[_]) Tryz.func67 rfl Tryz.ntmps67 (by simp) ?_
 by_cases h0:s.size=0
 ·have e0:(s.toList=[])=True:=by simp[FO h0]
  simp only[BM,↓C9,simprocAttr,forall_const,Un,e0,FO h0]
  simp[DS,h0]
 have e0:(s.toList=[])=False:=by simp;intro h;have:=Ah s;rw[h]at this;simp at this;omega
 obtain⟨c,l,hl⟩:=EH (s:=s) (i:=0) (by omega)
 obtain⟨hp,hc,hl',hsl,hb⟩:=Ck hl
 have hcl:=Dl c
 have w32:IntKind.i32.wrap (c.toNat:Int)=c.toNat:=Vd (by omega) (by omega)
 rw[List.drop_zero]at hl
 have hw:=GO s.toList
 rw[Ah]at hw
 have hx:=LN s 0 (BW s.toList) (by omega)
 rw[Nat.zero_add]at hx
 by_cases h16:(16:Int)<(s.size:Int)
 ·simp only[BM,↓C9,simprocAttr,forall_const,Un,e0,h16]
  have: ¬s.size≤16:=by omega
  simp[DS,this]
 have wa: ∀h Q,Bz Tryz.prog 81 #[.string s,.int .i64 0] h Q=Q (.returned (.string (s.extract 0 (BW s.toList)))) h:=fun h Q=>by
  have e:=Ap s 0 (by omega) (by omega) h Q
  simp only[List.drop_zero,Nat.zero_add]at e
  exact e
 rcases Wg c.toNat hcl with⟨k1,k2⟩|⟨k1,k2⟩
 ·simp only[BM,↓C9,simprocAttr,forall_const,Un,e0,h16,hb,w32,hcl,k1,wa,hx]
  have h1:s.size≤16:=by omega
  have h2:0<s.size:=by omega
  rw[Pb]
  simp only[DS,h1,h2,decide_true,Bool.true_and]
  rw[hl]
  simp only[k2,Bool.true_and]
 ·simp only[BM,↓C9,simprocAttr,forall_const,Un,e0,h16,hb,w32,hcl,k1]
  simp only[DS]
  rw[hl]
  simp[k2]
theorem Ky(s:ByteArray)(h:AX)(Q:Ending→AX→Prop):Bz Tryz.prog 67 #[.string s] h Q=Q (.returned (.bool (DS s))) (h):=Bz.exact (by kernel_rfl) (UX s h)
theorem CY(s:ByteArray)(A_:AH):Bi Tryz.prog 67 #[.string s] A_=some (.bool (DS s)):=DW (by kernel_rfl) (by kernel_rfl) (fun h=>UX s h)
theorem cV(s:ByteArray)(h:AX):CallsH Tryz.prog 73 #[.string s] h fun r h'=>r=.returned (.bool (DS s))∧h'=h:=by
 refine BU ⟨Tryz.prog,73,Tryz.f73,22,[0,2],_⟩ (args:=[_]) Tryz.func73 rfl Tryz.ntmps73 (by simp) ?_
 by_cases h0:s.size=0
 ·have e0:(s.toList=[])=True:=by simp[FO h0]
  simp only[BM,↓C9,simprocAttr,forall_const,Un,Ky,e0,FO h0]
  simp[DS,h0]
 have e0:(s.toList=[])=False:=by simp;intro h;have:=Ah s;rw[h]at this;simp at this;omega
 obtain⟨c,l,hl⟩:=EH (s:=s) (i:=0) (by omega)
 obtain⟨hp,hc,hl',hsl,hb⟩:=Ck hl
 rw[List.drop_zero]at hl
 by_cases h16:(s.size:Int)≤(16:Int)
 ·have wa: ∀h Q,Bz Tryz.prog 87 #[.string s,.int .i64 0] h Q=Q (.returned (.int .i64 ((BW s.toList:Nat):Int))) h:=fun h Q=>by
   have e:=Ay s 0 (by omega) (by omega) h Q
   simp only[List.drop_zero,Nat.zero_add]at e
   exact e
  have h1:s.size≤16:=by omega
  have h2:0<s.size:=by omega
  cases k2:Ca c.toNat with
  |true=>
   simp only[BM,↓C9,simprocAttr,forall_const,Un,Ky,e0,h16,hb,k2,wa]
   simp only[DS,h1,h2,decide_true,Bool.true_and]
   rw[hl]
   simp only[k2,Bool.true_and,Pb]
  |false=>
   simp only[BM,↓C9,simprocAttr,forall_const,Un,Ky,e0,h16,hb,k2,wa]
   simp only[DS]
   rw[hl]
   simp[k2]
 ·simp only[BM,↓C9,simprocAttr,forall_const,Un,Ky,e0,h16]
  have: ¬s.size≤16:=by omega
  simp[DS,this]
theorem CF(s:ByteArray)(A_:AH):Bi Tryz.prog 73 #[.string s] A_=some (.bool (DS s)):=DW (by kernel_rfl) (by kernel_rfl) (fun h=>cV s h)
end Go.Proofs.YtfphceknmgadgaaGreatDoor
namespace Go.Proofs.YtfphceknmgadgaaGreatDoor
open Go.Vm
set_option maxHeartbeats 1000000
set_option maxRecDepth 20000
theorem FA(t:ByteArray)(i j:Nat):(t.extract i j).toList=(t.toList.take j).drop i:=by
 rw[ByteArray.toList_eq,ByteArray.toList_eq,ByteArray.data_extract]
 simp[List.extract_eq_take_drop,List.drop_take]
theorem Ey{a b:ByteArray}(h:a.toList=b.toList):a=b:=by
 rw[ByteArray.toList_eq,ByteArray.toList_eq]at h
 exact F9 h
theorem U7{s:ByteArray}{i:Nat}{w r:List UInt8}(h:s.toList.drop i=w++r):(s.extract i (i+w.length)).toList=w:=by
 rw[FA,List.drop_take,h];simp
def Bq(x:LR):List UInt8:=if x.k=1∨x.k=4 then x.t.toList else if x.k=2 then Lib.itoa x.n else if x.k=3 then 34::(x.t.toList++[34])else []
def printed(x:LR):Bool:=decide (1≤x.k)&&decide (x.k≤4)
def KM(x:LR):Prop:=
 (x.k=1∧x.n=0∧x.t.toList.length≤16∧BW x.t.toList=x.t.toList.length∧ ∃c l,x.t.toList=c::l∧Ca c.toNat=true)∨
 (x.k=2∧x.t=⟨#[]⟩∧ ∃m:Nat,x.n=m∧m≤9007199254740992)∨
 (x.k=3∧x.n=0∧x.t.toList.length≤100∧Dh (x.t.toList++[34])=some x.t.toList.length)∨
 (x.k=4∧x.n=0∧(x.t.toList=[33,61]∨x.t.toList=[60,61]∨ ∃c,x.t.toList=[c]∧F0 c.toNat=true))
def Stop(r:List UInt8):Prop:=r=[]∨ ∃l,r=32::l
theorem WE: ∀c,c<256→F0 c=true→Ca c=false∧BJ c=false∧c≠34∧DA c=false∧c≠35:=by decide+kernel
theorem HN: ∀c,c<256→Ca c=true→BJ c=false∧c≠34∧DA c=false∧c≠35∧c≠33∧c≠60:=by decide+kernel
theorem Fo: ∀c,c<256→BJ c=true→Ca c=false∧c≠34∧DA c=false∧c≠35∧c≠33∧c≠60∧CA c=true:=by decide+kernel
theorem Pm{r:List UInt8}: ∀(w:List UInt8),Dh (w++[34])=some w.length→Dh (w++34::r)=some w.length
 | [],_=>by simp[Dh]
 | c ::w,h=>by
  simp only[List.cons_append,Dh]at h⊢
  by_cases h1:c.toNat=34
  ·rw[if_pos h1]at h;simp at h
  ·rw[if_neg h1]at h⊢
   by_cases h2:JZ c=true
   ·rw[if_pos h2]at h;cases h
   ·rw[if_neg h2]at h⊢
    cases h3:Dh (w++[34])with
    |none=>rw[h3]at h;cases h
    |some k=>
     rw[h3]at h
     simp only[Option.some.injEq,List.length_cons]at h
     have:k=w.length:=by omega
     subst this
     rw[Pm w h3]
     rfl
theorem Eg: ∀(n:Nat),ED (Lib.decDigits n)=true:=by
 intro n
 induction n using Nat.strongRecOn with
 | ind n ih=>
  rw[Lib.decDigits]
  unfold ED at*
  split
  ·rename_i h
   have:(UInt8.ofNat (48+n)).toNat=48+n:=by simp;omega
   simp[BJ,this];omega
  ·rename_i h
   have h1:=ih (n / 10) (by omega)
   have:(UInt8.ofNat (48+n % 10)).toNat=48+n % 10:=by simp;omega
   rw[List.all_append,h1,Bool.true_and,List.all_cons,List.all_nil,Bool.and_true,this]
   simp only[BJ,Bool.and_eq_true,decide_eq_true_eq];omega
theorem Va: ∀(a b:List UInt8) (n:Nat),Cd (a++b) n=Cd b (Cd a n)
 | [],_,_=>rfl
 |c::a,b,n=>by simp only[List.cons_append,Cd];exact Va a b _
theorem oK(n:Nat):Cd (Lib.decDigits n) 0=n:=by
 induction n using Nat.strongRecOn with
 | ind n ih=>
  rw[Lib.decDigits]
  split
  ·rename_i h
   have:(UInt8.ofNat (48+n)).toNat=48+n:=by simp;omega
   simp only[Cd,this];omega
  ·rename_i h
   have h1:=ih (n / 10) (by omega)
   have:(UInt8.ofNat (48+n % 10)).toNat=48+n % 10:=by simp;omega
   rw[Va,h1]
   simp only[Cd,this];omega
theorem J0(n:Nat):Lib.decDigits n≠[]:=by
 rw[Lib.decDigits];split<;>simp
theorem dF(n:Nat)(h:0<n):(Lib.decDigits n).head? ≠some 48:=by
 induction n using Nat.strongRecOn with
 | ind n ih=>
  rw[Lib.decDigits]
  split
  ·rename_i h1
   have:(UInt8.ofNat (48+n)).toNat=48+n:=by simp;omega
   simp only[List.head?_cons,ne_eq,Option.some.injEq]
   intro e
   rw[e]at this
   simp at this
   omega
  ·rename_i h1
   have h2:=ih (n / 10) (by omega) (by omega)
   cases hd:Lib.decDigits (n / 10)with
   |nil=>exact absurd hd (J0 _)
   |cons c l=>rw[hd]at h2;simpa using h2
theorem ik(n:Nat):H4 (Lib.decDigits n)=false:=by
 by_cases h:n<10
 ·rw[Lib.decDigits,dif_pos h];rfl
 ·have:=dF n (by omega)
  simp only[H4,Bool.and_eq_false_iff,decide_eq_false_iff_not]
  exact .inr this
theorem mZ{m:Nat}(h:m≤9007199254740992):EO (Lib.decDigits m)=((m:Int),0):=by
 unfold EO
 rw[if_neg (by rw[Eg];simp),if_neg (by rw[ik];simp),oK,if_neg (by omega)]
theorem N8: ∀(w:List UInt8),ED w=true→BW w=w.length
 | [],_=>rfl
 |c::w,h=>by
  rw[DX,Bool.and_eq_true]at h
  have:=(Fo c.toNat (Dl c) h.1).2.2.2.2.2.2
  simp only[BW,this,if_true,List.length_cons]
  rw[N8 w h.2]
theorem Xu: ∀(w:List UInt8) (n k:Nat),n<10 ^ k→ED w=true→Cd w n<10 ^ (k+w.length)
 | [],n,k,h,_=>by simpa[Cd]using h
 |c::w,n,k,h,hd=>by
  rw[DX,Bool.and_eq_true]at hd
  have hb:=Ct hd.1
  have:=Xu w (10*n+(c.toNat - 48)) (k+1) (by rw[Nat.pow_succ];omega) hd.2
  simp only[Cd,List.length_cons]
  rw[show k+(w.length+1)=k+1+w.length by omega]
  exact this
theorem Lt{x:LR}(h:KM x): ∃c l,Bq x=c::l∧DA c.toNat=false∧c.toNat≠35:=by
 rcases h with⟨k,_,_,_,c,l,h1,h2⟩|⟨k,_,m,hm,_⟩|⟨k,_⟩|⟨k,_,h⟩
 ·have:=HN c.toNat (Dl c) h2
  exact⟨c,l,by simp[Bq,k,h1],this.2.2.1,this.2.2.2.1⟩
 ·cases hd:Lib.decDigits m with
  |nil=>exact absurd hd (J0 m)
  |cons c l=>
   have h1:=Eg m
   rw[hd,DX,Bool.and_eq_true]at h1
   have:=Fo c.toNat (Dl c) h1.1
   refine⟨c,l, ?_,this.2.2.1,this.2.2.2.1⟩
   have e:Bq x=Lib.decDigits m:=by simp[Bq,k,hm,Lib.itoa]
   rw[e];exact hd
 ·exact⟨34,_,by simp only[Bq,k];rfl,by decide,by decide⟩
 ·rcases h with h|h|⟨c,h,hc⟩
  ·exact⟨33,[61],by simp[Bq,k,h],by decide,by decide⟩
  ·exact⟨60,[61],by simp[Bq,k,h],by decide,by decide⟩
  ·have:=WE c.toNat (Dl c) hc
   exact⟨c,[],by simp[Bq,k,h],this.2.2.2.1,this.2.2.2.2⟩
theorem Sa{c:UInt8}{l:List UInt8}(h1:c.toNat≠33)(h2:c.toNat≠60):Dk (c::l)=false:=by
 simp only[Dk,List.isPrefixOf,Bool.or_eq_false_iff,Bool.and_eq_false_iff,beq_eq_false_iff_ne]
 exact⟨.inl fun e=>h1 (by rw[←e];rfl),.inl fun e=>h2 (by rw[←e];rfl)⟩
theorem Pu: ∀(l:List UInt8),BW (l.take (BW l))=BW l
 | []=>rfl
 | c::l=>by
  by_cases hc:CA c.toNat=true
  ·simp only[BW,hc,if_true,List.take_succ_cons]
   rw[Pu l]
  ·simp[BW,hc]
theorem Pt: ∀(l:List UInt8) (k:Nat),Dh l=some k→Dh (l.take k++[34])=some k∧k<l.length
 | [],_,h=>by simp[Dh]at h
 | c ::l,k,h=>by
  simp only[Dh]at h
  by_cases h1:c.toNat=34
  ·rw[if_pos h1]at h;cases h;simp[Dh]
  ·rw[if_neg h1]at h
   by_cases h2:JZ c=true
   ·rw[if_pos h2]at h;cases h
   ·rw[if_neg h2]at h
    cases h3:Dh l with
    |none=>rw[h3]at h;cases h
    |some j=>
     rw[h3]at h
     cases h
     obtain⟨e1,e2⟩:=Pt l j h3
     simp only[List.take_succ_cons,List.cons_append,Dh,h1,if_false,e1,List.length_cons]
     rw[if_neg h2]
     exact⟨rfl,by omega⟩
theorem nh(s:ByteArray)(i:Nat)(hi:i<s.size)(h0:(BV s i).e=0):KM (BV s i)∧(Bq (BV s i)).length+i≤(BV s i).nx:=by
 obtain⟨c,l,hl⟩:=EH hi
 obtain⟨hp,hc,hl',hsl,hb⟩:=Ck hl
 have hwl:=GO (c::l)
 have hx: ∀k,k≤(c::l).length→(s.extract i (i+k)).toList=(c::l).take k:=fun k hk=>by
  rw[FA,List.drop_take,hl];congr 1;omega
 revert h0
 unfold BV
 rw[hl]
 simp only
 split
 ·rename_i h1
  intro _
  have:0<l.length:=by
   simp only[Dk,Bool.or_eq_true]at h1
   rcases h1 with h1|h1<;>exact(Gs _ _ _ _ h1).2.2
  have e:=hx 2 (by simp only[List.length_cons];omega)
  cases l with
  |nil=>simp at this
  | cons d l=>
   simp only[List.take_succ_cons,List.take_zero]at e
   refine⟨.inr (.inr (.inr ⟨rfl,rfl, ?_⟩)), ?_⟩
   ·simp only[Dk,List.isPrefixOf,Bool.or_eq_true,Bool.and_eq_true,beq_iff_eq,Bool.and_true,and_true]at h1
    simp only[e]
    rcases h1 with⟨h1,h2⟩|⟨h1,h2⟩
    ·exact .inl (by rw[←h1,←h2])
    ·exact .inr (.inl (by rw[←h1,←h2]))
   ·simp only[Bq,e];simp;omega
 split
 ·rename_i h1
  split
  ·intro h;cases h
  ·rename_i h16
   intro _
   have e:=hx (BW (c::l)) hwl
   have hlen:((c::l).take (BW (c::l))).length=BW (c::l):=by rw[List.length_take];omega
   have hpos:0<BW (c::l):=by simp[BW,CA,h1]
   refine⟨.inl ⟨rfl,rfl, ?_, ?_, ?_⟩, ?_⟩
   ·simp only[e,hlen];omega
   ·simp only[e];rw[Pu,hlen]
   ·simp only[e]
    obtain⟨j,hj⟩: ∃j,BW (c::l)=j+1:=⟨BW (c::l) - 1,by omega⟩
    rw[hj]
    exact⟨c,_,rfl,h1⟩
   ·simp only[Bq,e,if_true,true_or];rw[hlen];omega
 split
 ·rename_i h1
  have e:=hx (BW (c::l)) hwl
  have hlen:((c::l).take (BW (c::l))).length=BW (c::l):=by rw[List.length_take];omega
  have hpos:0<BW (c::l):=by simp[BW,CA,h1]
  split
  ·intro h;rename_i h2;exact absurd h h2
  ·rename_i h2
   intro _
   simp only[ne_eq,Decidable.not_not]at h2
   have hn: ∃m:Nat,(EO (s.extract i (i+BW (c::l))).toList).1=m∧m≤9007199254740992∧m<10 ^ BW (c::l):=by
    revert h2
    unfold EO
    split
    ·intro h;cases h
    ·rename_i a1
     split
     ·intro h;cases h
     ·split
      ·intro h;cases h
      ·rename_i a3
       intro _
       refine⟨_,rfl,by omega, ?_⟩
       rw[e]at a1⊢
       have:=Xu ((c::l).take (BW (c::l))) 0 0 (by simp) (by simpa using a1)
       rw[hlen]at this
       simpa using this
   obtain⟨m,hm,hle,hlt⟩:=hn
   refine⟨.inr (.inl ⟨rfl,rfl,m,hm,hle⟩), ?_⟩
   have h9:=HS _ m hpos hlt
   have e:Bq ⟨2,⟨#[]⟩,(EO (s.extract i (i+BW (c::l))).toList).1,i,i+BW (c::l),0⟩=Lib.decDigits m:=by simp[Bq,hm,Lib.itoa]
   rw[e]
   show(Lib.decDigits m).length+i≤i+BW (c::l)
   omega
 split
 ·rename_i h34
  unfold EX
  rw[hl']
  cases hk:Dh l with
  |none=>intro h;cases h
  | some k=>
   simp only
   split
   ·intro h;cases h
   ·rename_i h100
    intro _
    obtain⟨e1,e2⟩:=Pt l k hk
    have e:(s.extract (i+1) (i+1+k)).toList=l.take k:=by
     rw[FA,List.drop_take,hl'];congr 1;omega
    have hlen:(l.take k).length=k:=by rw[List.length_take];omega
    refine⟨.inr (.inr (.inl ⟨rfl,rfl, ?_, ?_⟩)), ?_⟩
    ·simp only[e,hlen];omega
    ·simp only[e,hlen];exact e1
    ·simp only[Bq,e];simp;omega
 split
 ·rename_i h5
  intro _
  have e:=hx 1 (by simp)
  simp only[List.take_succ_cons,List.take_zero]at e
  refine⟨.inr (.inr (.inr ⟨rfl,rfl,.inr (.inr ⟨c,e,h5⟩)⟩)), ?_⟩
  simp only[Bq,e];simp;omega
 ·intro h;cases h
def D6(x:LR):Int×ByteArray×Int:=(x.k,x.t,x.n)
def mU:List LR→Nat
 | []=>0
 |x::L=>(Bq x).length+1+mU L
theorem jy(s:ByteArray): ∀f i,s.size<i+f→i≤s.size→(B8 s f i).1=0→ ∃K,(B8 s f i).2.2=K++[Es s]∧(∀x∈K,KM x)∧mU K+2*i≤2*s.size:=by
 intro f
 induction f with
 |zero=>intro i h hi;omega
 | succ f ih=>
  intro i h hi
  simp only[B8]
  split
  ·intro _;exact⟨[],rfl,by simp,by simp[mU];omega⟩
  ·rename_i h1
   split
   ·rename_i h2;intro h;exact absurd h h2
   ·rename_i h2
    simp only[ne_eq,Decidable.not_not]at h2
    intro h3
    obtain⟨n1,n2⟩:=Eo s i (by omega) h2
    have n3:=HR s _ n2
    obtain⟨K,k1,k2,k3⟩:=ih ((BV s i).nx+Cs false (s.toList.drop (BV s i).nx)) (by omega) n3 h3
    obtain⟨w1,w2⟩:=nh s i (by omega) h2
    simp only at h3
    rw[if_pos h3,k1]
    refine⟨BV s i::K,rfl, ?_, ?_⟩
    ·intro x hx
     rcases List.mem_cons.1 hx with e|e
     ·rw[e];exact w1
     ·exact k2 x e
    ·simp only[mU];omega
theorem Y6{x:LR}(h:KM x)(r:List UInt8):Cs false (Bq x++r)=0:=by
 obtain⟨c,l,h1,h2,h3⟩:=Lt h
 rw[h1]
 simp[Cs,h2,h3]
end Go.Proofs.YtfphceknmgadgaaGreatDoor
namespace Go.Vm
theorem Ak.useX{P:Program}{g:FuncId}{args:Array Value}{A A0:AH}{K0 K:Value→AH→Prop}(hc:Ak P g args A0 K0)(hs:SubA A0 A)(X:AH)(hX:SubA X A)(hd:Dis A0 X)
  (hk: ∀v D,K0 v D→Dis D X→ ∃A'',SubA A'' D∧K v (A''++X)):Ak P g args A K:=by
 intro h hA
 have h1:=hc h (hA.sub hs)
 have key: ∀e h',KG A0 h K0 e h'→KG A h K e h':=by
  rintro e h' ⟨v,D,he,hD,kp,hK⟩
  have hdx: ∀x,AA X x≠none→AA D x=none:=fun x hx=>by
   cases hl:AA X x with
   |none=>exact absurd hl hx
   |some o=>
    have hlt:=hA.lt (hX _ _ hl)
    exact(kp.2 x hlt (hd x hx)).2
  obtain⟨A'',h2,h3⟩:=hk v D hK hdx
  refine⟨v,A''++X,he, ?_, ?_,h3⟩
  ·refine Dq.both (hD.sub h2) fun b o hl=> ?_
   have hb:=hA _ _ (hX _ _ hl)
   have hlt:=hA.lt (hX _ _ hl)
   rw[(kp.2 b hlt (hd b (by rw[hl];simp))).1]
   exact hb
  ·refine⟨kp.1,fun b hb hl=> ?_⟩
   obtain⟨q1,q2⟩:=kp.2 b hb (hs.none hl)
   exact⟨q1,Aj (h2.none q2) (hX.none hl)⟩
 unfold Fl at h1⊢
 split
 ·rename_i hcl
  rw[if_pos hcl]at h1
  exact h1.mono0 key
 ·rename_i hcl
  rw[if_neg hcl]at h1
  intro w hw
  obtain⟨v,w',r1,r2,r3⟩:=h1 w hw
  exact⟨v,w',r1,r2,key _ _ r3⟩
theorem Ak.sub{P:Program}{g:FuncId}{args:Array Value}{A A0:AH}{K:Value→AH→Prop}(hc:Ak P g args A0 K)(hs:SubA A0 A):Ak P g args A K:=
 Ak.useX hc hs [] (SubA.nil _) (fun x hx=>absurd rfl hx) fun v D h _=>⟨D,SubA.refl _,by rw[List.append_nil];exact h⟩
theorem C3.at[dd:DefD]{c:CxA}{k:List It}{ρ:Bc}{A A':AH}(ha:SubA A A')(hl: @C3 dd c k ρ A ()): @C3 dd c k ρ A' ():=fun A0 h0 h hA kp=>hl A0 h0 h (hA.sub ha) (kp.sub ha)
end Go.Vm
namespace Go.Vm
theorem E8.as{α β:Type}{f:α→List Value}{g:β→List Value}{n:Nat}{A:AH}{p:Option Addr}{L:List α}{M:List β}(h:E8 f n A p L)(e:M.map g=L.map f):E8 g n A p M:=by
 have hlen:M.length=L.length:=by have:=congrArg List.length e;simpa using this
 rcases h with h|⟨b,off,cs,ty,fr,h1,h2,h3⟩
 ·exact .inl (List.eq_nil_of_length_eq_zero (by rw[hlen,h];rfl))
 ·refine .inr ⟨b,off,cs,ty,fr,h1,h2,fun i y hi=> ?_⟩
  have hlt:=(List.getElem?_eq_some_iff.1 hi).1
  have hx:=List.getElem?_eq_getElem (show i<L.length by omega)
  have:(M.map g)[i]? =(L.map f)[i]? :=by rw[e]
  rw[List.getElem?_map,List.getElem?_map,hi,hx]at this
  simp only[Option.map_some,Option.some.injEq]at this
  rw[this]
  exact h3 i _ hx
end Go.Vm
namespace Go.Proofs.YtfphceknmgadgaaGreatDoor
open Go.Vm
theorem H0{P:Program}{g:FuncId}{args:Array Value}{A:AH}{v:Value}(hv:Bi P g args A=some v)(hc:AD P g=true){h:AX}(hs:Dq A h):CallsH P g args h fun e h'=>e=.returned v∧Grew h h':=by
 have:=(PD hv).2 h hs
 unfold Fl at this
 rwa [if_pos hc]at this
end Go.Proofs.YtfphceknmgadgaaGreatDoor
