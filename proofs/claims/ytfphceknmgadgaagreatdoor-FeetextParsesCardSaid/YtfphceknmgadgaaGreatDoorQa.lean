/-
Lists of texts, names, printed lexemes scanned, calls beside others, arguments opened.
Conditions: none.
-/
import Derived.Test.YtfphceknmgadgaaGreatDoorVmAR
import Derived.Test.YtfphceknmgadgaaGreatDoorTy
import Derived.Test.YtfphceknmgadgaaGreatDoorQy
import Derived.Lib.ItoaNum
import Derived.Test.YtfphceknmgadgaaGreatDoorQx
import Derived.Lib.Join
set_option linter.unusedSimpArgs false
set_option linter.unusedVariables false
namespace Go.Proofs.YtfphceknmgadgaaGreatDoor
open Go.Vm
set_option maxHeartbeats 1000000
set_option maxRecDepth 20000
theorem TE:type_of% (An @AF (An @AN (An @AO (An @AE (An @AG (An @AP (An @Aa (An @AL (An @Af (An @Aq (An @Ai (An @Ar (An @BM (An @Az (An @A6 (An @BD @BQ)))))))))))))))):=⟨@AF,@AN,@AO,@AE,@AG,@AP,@Aa,@AL,@Af,@Aq,@Ai,@Ar,@BM,@Az,@A6,@BD,@BQ⟩
def bs(l:List UInt8):ByteArray:=⟨l.toArray⟩
theorem Dd(l:List UInt8):(bs l).toList=l:=by rw[ByteArray.toList_eq];rfl
theorem Bg(l:List UInt8):(bs l).size=l.length:=by simp[bs,ByteArray.size]
theorem Dt(l:List UInt8):(bs l).data.toList=l:=rfl
theorem dM{a b:ByteArray}(h:a.data.toList=b.data.toList):a=b:=by
 obtain⟨⟨a⟩⟩:=a;obtain⟨⟨b⟩⟩:=b;simp at h;rw[h]
theorem HX(a b:List UInt8):bs a++bs b=bs (a++b):=dM (by simp[bs])
theorem K7: ∀(w n:Nat),0<w→n<10 ^ w→(Lib.decDigits n).length≤w
 |0,_,h,_=>by omega
 | w+1,n,_,h=>by
  rw[Lib.decDigits]
  split
  ·simp
  ·rename_i hn
   have hw:0<w:=by
    cases w with
    |zero=>simp at h;omega
    |succ w=>omega
   have:=K7 w (n / 10) hw (by rw[Nat.pow_succ]at h;omega)
   simp
   omega
end Go.Proofs.YtfphceknmgadgaaGreatDoor
namespace Go.Proofs.YtfphceknmgadgaaGreatDoor
open Go.Vm
set_option maxHeartbeats 1000000
set_option maxRecDepth 20000
abbrev ns:=List UInt8
theorem Dj{α:Type}{L l:List α}{e:Nat}{a:α}(h3:a::l=L.drop e):L[e]? =some a∧e<L.length∧l=L.drop (e+1)∧L.take (e+1)=L.take e++[a]:=by
 have ha:L[e]? =some a:=by
  have:=congrArg (fun x=>x[0]?) h3
  simpa using this.symm
 refine⟨ha,(List.getElem?_eq_some_iff.1 ha).1, ?_, ?_⟩
 ·have:=congrArg (fun x=>x.drop 1) h3
  simpa[List.drop_drop,Nat.add_comm]using this
 ·rw[List.take_add_one,ha];rfl
theorem drop_nil{α:Type}{L:List α}{e:Nat}(h3:[]=L.drop e)(he:e≤L.length):L.length=e∧L.take e=L:=by
 rcases Nat.lt_or_ge e L.length with h|h
 ·rw[List.drop_eq_getElem_cons h]at h3;cases h3
 ·have:e=L.length:=by omega
  exact⟨this.symm,by rw[this,List.take_length]⟩
def Xy(t:ns):List Value:=[.string (bs t)]
theorem Yc(t:ns):(Xy t).length=1:=rfl
theorem ES.take{α:Type}{f:α→List Value}{n:Nat}{A:AH}{p:Option Addr}{L:List α}(h:ES f n A p L)(i:Nat):ES f n A p (L.take i):=by
 rcases h with h|⟨b,off,cs,e,fr,h1,h2,h3⟩
 ·exact .inl (by rw[h];simp)
 ·refine .inr ⟨b,off,cs,e,fr,h1,h2,fun j a hj=>h3 j a ?_⟩
  rw[List.getElem?_take]at hj
  split at hj
  ·exact hj
  ·cases hj
def ez(A:AH)(p:Option Addr)(cap:Nat)(T:List ns):Prop:=ES Xy 1 A p T∧T.length≤cap∧cap≤9223372036854775807
theorem ez.mono{A B:AH}{p:Option Addr}{cap:Nat}{T:List ns}(h:ez A p cap T)(hs:SubA A B):ez B p cap T:=⟨h.1.mono hs,h.2⟩
theorem ez.nil{A:AH}:ez A none 0 []:=⟨ES.nil,by simp,by omega⟩
theorem ez.isNone{A:AH}{p:Option Addr}{cap:Nat}{T:List ns}(h:ez A p cap T)(hp:p.isNone=true):T=[]:=by
 rcases h.1 with h|⟨b,off,cs,e,fr,rfl,_⟩
 ·exact h
 ·cases hp
theorem ez.at(b:Nat)(e:TypeId)(T:List ns)(h:T.length≤9223372036854775807):ez [(b,.cells (T.flatMap Xy).toArray e)] (some ⟨b,0,none⟩) T.length T:=by
 have o:Cq Xy 1 e (.slice (some ⟨b,0,none⟩) T.length T.length) [(b,.cells (T.flatMap Xy).toArray e)] T:=.inl (GF.at (by rw[GU Xy 1 (fun _=>rfl)]) (by simpa only[maxLen]using h))
 obtain⟨p,cap,h1,h2,h3⟩:=o.read Yc
 cases h1
 exact⟨h3,h2,h⟩
theorem _root_.Go.Vm.Dis.subr{D X Y:AH}(d:Dis D Y)(h:SubA X Y):Dis D X:=fun x hx=>d x fun hn=>by
 cases hl:Vm.AA X x with
 |none=>exact hx hl
 |some o=>rw[h x o hl]at hn;cases hn
theorem AM.new{P:Program}{g:FuncId}{args:Array Value}{A A0:AH}{R:Value→AH→Prop}{K:Value→AH→Prop}(hc:AM P g args A0 fun u D=> ∃v B,u=v∧R v B∧Dis B A0∧SubA (B++A0) D)(hs:SubA A0 A)
  (hk: ∀v B,R v B→Dis B A→K v (B++A)):AM P g args A K:=by
 have h1:AM P g args A fun v D=> ∃B,R v B∧Dis B A∧SubA (B++A) D:=by
  refine AM.go hc hs (fun v D ⟨u,B,_,_,h2,h3⟩=>SubA.trans h2.right h3) ?_
  rintro v D A' ⟨u,B,rfl,h0,h2,h3⟩ hD hA hx
  have hd:Dis B A:=fun x hxa=>by
   cases hb:Vm.AA B x with
   |none=>rfl
   | some o=>
    have e1:Vm.AA D x=some o:=h3 _ _ (SubA.left B A0 _ _ hb)
    have e2:Vm.AA A0 x=none:=by
     cases h0:Vm.AA A0 x with
     |none=>rfl
     |some o2=>have:=h2 x (by rw[h0];simp);rw[hb]at this;cases this
    exact absurd (hx x (by rw[e1];simp) e2) hxa
  exact⟨B,h0,hd,SubA.both (SubA.trans (SubA.trans (SubA.left B A0) h3) hD) hA⟩
 refine AM.use h1 (SubA.refl A) (fun v D ⟨B,_,hd,h3⟩ b hb=> ?_) [] (SubA.nil _) (fun x hx=>absurd rfl hx) (fun v D ⟨B,h0,hd,h3⟩ _=>⟨B++A,h3,by rw[List.append_nil];exact hk v B h0 hd⟩)
 cases hl:Vm.AA A b with
 |none=>exact absurd hl hb
 |some o=>rw[h3 _ _ (hd.right _ _ hl)];simp
theorem AM.newX{P:Program}{g:FuncId}{args:Array Value}{A A0:AH}{R:Value→AH→Prop}{K:Value→AH→Prop}(hc:AM P g args A0 fun u D=> ∃v B,u=v∧R v B∧Dis B A0∧SubA (B++A0) D)(hs:SubA A0 A)
  (hk: ∀v B,R v B→Dis B A→ ∃A'',SubA A'' (B++A)∧K v A''):AM P g args A K:=by
 refine AM.use (K0:=fun v D=> ∃B,R v B∧Dis B A∧D=B++A) (AM.new hc hs fun v B h0 hd=>⟨B,h0,hd,rfl⟩) (SubA.refl A) (fun v D ⟨B,_,hd,h3⟩ b hb=> ?_) [] (SubA.nil _) (fun x hx=>absurd rfl hx) (fun v D ⟨B,h0,hd,h3⟩ _=> ?_)
 ·cases hl:Vm.AA A b with
  |none=>exact absurd hl hb
  |some o=>rw[h3,hd.right _ _ hl];simp
 ·obtain⟨A'',h4,h5⟩:=hk v B h0 hd
  exact⟨A'',by rw[h3];exact h4,by rw[List.append_nil];exact h5⟩
theorem bw{B X:AH}{x:Nat}{o:Obj}(h:Vm.AA B x=none):SubA ((x,o)::(B++X)) (B++((x,o)::X)):=fun b u hl=>by
 simp only[Vm.AA]at hl
 rw[By]
 split at hl
 ·rename_i e;subst e;rw[h];simp[Vm.AA,hl]
 ·rename_i e
  rw[By]at hl
  cases hb:Vm.AA B b with
  |some w=>rw[hb]at hl;exact hl
  |none=>rw[hb]at hl;simp only[Vm.AA,e,if_false];exact hl
end Go.Proofs.YtfphceknmgadgaaGreatDoor
namespace Go.Proofs.YtfphceknmgadgaaGreatDoor
open Go.Vm
set_option maxHeartbeats 1000000
set_option maxRecDepth 20000
def DS(s:ByteArray):Bool:=decide (0<s.size)&&(decide (s.size≤16)&&((match s.toList with|c::_=>Co c.toNat| []=>false)&&decide (CG s.toList=s.size)))
theorem EJ{s:ByteArray}(h:s.size=0):s.toList=[]:=by
 have:=BK s
 rw[h]at this
 exact List.eq_nil_of_length_eq_zero this
theorem T8: ∀c,c<256→(E9 c=2∧Co c=true)∨(E9 c≠2∧Co c=false):=by decide+kernel
theorem QN(s:ByteArray)(h:AY):CallsH Tryz.prog 67 #[.string s] h fun r h'=>r=.returned (.bool (DS s))∧h'=h:=by
 refine BO ⟨Tryz.prog,67,Tryz.f67,23,[0,2],_⟩ (args:=[_]) Tryz.func67 rfl Tryz.ntmps67 (by simp) ?_
 by_cases h0:s.size=0
 ·have e0:(s.toList=[])=True:=by simp[EJ h0]
  simp only[BE,↓Cl,simprocAttr,forall_const,TE,e0,EJ h0]
  simp[DS,h0]
 have e0:(s.toList=[])=False:=by simp;intro h;have:=BK s;rw[h]at this;simp at this;omega
 obtain⟨c,l,hl⟩:=Dx (s:=s) (i:=0) (by omega)
 obtain⟨hp,hc,hl',hsl,hb⟩:=CM hl
 have hcl:=Kf c
 have w32:IntKind.i32.wrap (c.toNat:Int)=c.toNat:=QZ (by omega) (by omega)
 rw[List.drop_zero]at hl
 have hw:=Gn s.toList
 rw[BK]at hw
 have hx:=Jj s 0 (CG s.toList) (by omega)
 rw[Nat.zero_add]at hx
 by_cases h16:(16:Int)<(s.size:Int)
 ·simp only[BE,↓Cl,simprocAttr,forall_const,TE,e0,h16]
  have: ¬s.size≤16:=by omega
  simp[DS,this]
 have wa: ∀h Q,Bj Tryz.prog 81 #[.string s,.int .i64 0] h Q=Q (.returned (.string (s.extract 0 (CG s.toList)))) h:=fun h Q=>by
  have e:=Ai s 0 (by omega) (by omega) h Q
  simp only[List.drop_zero,Nat.zero_add]at e
  exact e
 rcases T8 c.toNat hcl with⟨k1,k2⟩|⟨k1,k2⟩
 ·simp only[BE,↓Cl,simprocAttr,forall_const,TE,e0,h16,hb,w32,hcl,k1,wa,hx]
  have h1:s.size≤16:=by omega
  have h2:0<s.size:=by omega
  rw[M8]
  simp only[DS,h1,h2,decide_true,Bool.true_and]
  rw[hl]
  simp only[k2,Bool.true_and]
 ·simp only[BE,↓Cl,simprocAttr,forall_const,TE,e0,h16,hb,w32,hcl,k1]
  simp only[DS]
  rw[hl]
  simp[k2]
theorem Fl(s:ByteArray)(h:AY)(Q:Ending→AY→Prop):Bj Tryz.prog 67 #[.string s] h Q=Q (.returned (.bool (DS s))) (h):=Bj.exact (by kernel_rfl) (QN s h)
theorem CB(s:ByteArray)(A_:AH):B5 Tryz.prog 67 #[.string s] A_=some (.bool (DS s)):=C4 (by kernel_rfl) (by kernel_rfl) (fun h=>QN s h)
theorem Ng(s:ByteArray)(h:AY):CallsH Tryz.prog 73 #[.string s] h fun r h'=>r=.returned (.bool (DS s))∧h'=h:=by
 refine BO ⟨Tryz.prog,73,Tryz.f73,22,[0,2],_⟩ (args:=[_]) Tryz.func73 rfl Tryz.ntmps73 (by simp) ?_
 by_cases h0:s.size=0
 ·have e0:(s.toList=[])=True:=by simp[EJ h0]
  simp only[BE,↓Cl,simprocAttr,forall_const,TE,Fl,e0,EJ h0]
  simp[DS,h0]
 have e0:(s.toList=[])=False:=by simp;intro h;have:=BK s;rw[h]at this;simp at this;omega
 obtain⟨c,l,hl⟩:=Dx (s:=s) (i:=0) (by omega)
 obtain⟨hp,hc,hl',hsl,hb⟩:=CM hl
 rw[List.drop_zero]at hl
 by_cases h16:(s.size:Int)≤(16:Int)
 ·have wa: ∀h Q,Bj Tryz.prog 87 #[.string s,.int .i64 0] h Q=Q (.returned (.int .i64 ((CG s.toList:Nat):Int))) h:=fun h Q=>by
   have e:=Ar s 0 (by omega) (by omega) h Q
   simp only[List.drop_zero,Nat.zero_add]at e
   exact e
  have h1:s.size≤16:=by omega
  have h2:0<s.size:=by omega
  cases k2:Co c.toNat with
  |true=>
   simp only[BE,↓Cl,simprocAttr,forall_const,TE,Fl,e0,h16,hb,k2,wa]
   simp only[DS,h1,h2,decide_true,Bool.true_and]
   rw[hl]
   simp only[k2,Bool.true_and,M8]
  |false=>
   simp only[BE,↓Cl,simprocAttr,forall_const,TE,Fl,e0,h16,hb,k2,wa]
   simp only[DS]
   rw[hl]
   simp[k2]
 ·simp only[BE,↓Cl,simprocAttr,forall_const,TE,Fl,e0,h16]
  have: ¬s.size≤16:=by omega
  simp[DS,this]
theorem Ox(s:ByteArray)(h:AY)(Q:Ending→AY→Prop):Bj Tryz.prog 73 #[.string s] h Q=Q (.returned (.bool (DS s))) (h):=Bj.exact (by kernel_rfl) (Ng s h)
theorem Bo(s:ByteArray)(A_:AH):B5 Tryz.prog 73 #[.string s] A_=some (.bool (DS s)):=C4 (by kernel_rfl) (by kernel_rfl) (fun h=>Ng s h)
end Go.Proofs.YtfphceknmgadgaaGreatDoor
namespace Go.Proofs.YtfphceknmgadgaaGreatDoor
open Go.Vm
set_option maxHeartbeats 1000000
set_option maxRecDepth 20000
theorem Hj(t:ByteArray)(i j:Nat):(t.extract i j).toList=(t.toList.take j).drop i:=by
 rw[ByteArray.toList_eq,ByteArray.toList_eq,ByteArray.data_extract]
 simp[List.extract_eq_take_drop,List.drop_take]
theorem Gp{a b:ByteArray}(h:a.toList=b.toList):a=b:=by
 rw[ByteArray.toList_eq,ByteArray.toList_eq]at h
 exact dM h
theorem bC{s:ByteArray}{i:Nat}{w r:List UInt8}(h:s.toList.drop i=w++r):(s.extract i (i+w.length)).toList=w:=by
 rw[Hj,List.drop_take,h];simp
def KZ(x:LR):List UInt8:=if x.k=1∨x.k=4 then x.t.toList else if x.k=2 then Lib.itoa x.n else if x.k=3 then 34::(x.t.toList++[34])else []
def qu(x:LR):Bool:=decide (1≤x.k)&&decide (x.k≤4)
def ov(x:LR):Prop:=
 (x.k=1∧x.n=0∧x.t.toList.length≤16∧CG x.t.toList=x.t.toList.length∧ ∃c l,x.t.toList=c::l∧Co c.toNat=true)∨
 (x.k=2∧x.t=⟨#[]⟩∧ ∃m:Nat,x.n=m∧m≤9007199254740992)∨
 (x.k=3∧x.n=0∧x.t.toList.length≤100∧Ed (x.t.toList++[34])=some x.t.toList.length)∨
 (x.k=4∧x.n=0∧(x.t.toList=[33,61]∨x.t.toList=[60,61]∨ ∃c,x.t.toList=[c]∧KU c.toNat=true))
def Stop(r:List UInt8):Prop:=r=[]∨ ∃l,r=32::l
theorem UW: ∀(w:List UInt8) (n k:Nat),n<10 ^ k→EV w=true→CE w n<10 ^ (k+w.length)
 | [],n,k,h,_=>by simpa[CE]using h
 |c::w,n,k,h,hd=>by
  rw[Gc,Bool.and_eq_true]at hd
  have hb:=Cf hd.1
  have:=UW w (10*n+(c.toNat - 48)) (k+1) (by rw[Nat.pow_succ];omega) hd.2
  simp only[CE,List.length_cons]
  rw[show k+(w.length+1)=k+1+w.length by omega]
  exact this
theorem PJ: ∀(l:List UInt8),CG (l.take (CG l))=CG l
 | []=>rfl
 | c::l=>by
  by_cases hc:CH c.toNat=true
  ·simp only[CG,hc,if_true,List.take_succ_cons]
   rw[PJ l]
  ·simp[CG,hc]
theorem O1: ∀(l:List UInt8) (k:Nat),Ed l=some k→Ed (l.take k++[34])=some k∧k<l.length
 | [],_,h=>by simp[Ed]at h
 | c ::l,k,h=>by
  simp only[Ed]at h
  by_cases h1:c.toNat=34
  ·rw[if_pos h1]at h;cases h;simp[Ed]
  ·rw[if_neg h1]at h
   by_cases h2:ND c=true
   ·rw[if_pos h2]at h;cases h
   ·rw[if_neg h2]at h
    cases h3:Ed l with
    |none=>rw[h3]at h;cases h
    |some j=>
     rw[h3]at h
     cases h
     obtain⟨e1,e2⟩:=O1 l j h3
     simp only[List.take_succ_cons,List.cons_append,Ed,h1,if_false,e1,List.length_cons]
     rw[if_neg h2]
     exact⟨rfl,by omega⟩
theorem eb(s:ByteArray)(i:Nat)(hi:i<s.size)(h0:(B0 s i).e=0):ov (B0 s i)∧(KZ (B0 s i)).length+i≤(B0 s i).nx:=by
 obtain⟨c,l,hl⟩:=Dx hi
 obtain⟨hp,hc,hl',hsl,hb⟩:=CM hl
 have hwl:=Gn (c::l)
 have hx: ∀k,k≤(c::l).length→(s.extract i (i+k)).toList=(c::l).take k:=fun k hk=>by
  rw[Hj,List.drop_take,hl];congr 1;omega
 revert h0
 unfold B0
 rw[hl]
 simp only
 split
 ·rename_i h1
  intro _
  have:0<l.length:=by
   simp only[EG,Bool.or_eq_true]at h1
   rcases h1 with h1|h1<;>exact(Hd _ _ _ _ h1).2.2
  have e:=hx 2 (by simp only[List.length_cons];omega)
  cases l with
  |nil=>simp at this
  | cons d l=>
   simp only[List.take_succ_cons,List.take_zero]at e
   refine⟨.inr (.inr (.inr ⟨rfl,rfl, ?_⟩)), ?_⟩
   ·simp only[EG,List.isPrefixOf,Bool.or_eq_true,Bool.and_eq_true,beq_iff_eq,Bool.and_true,and_true]at h1
    simp only[e]
    rcases h1 with⟨h1,h2⟩|⟨h1,h2⟩
    ·exact .inl (by rw[←h1,←h2])
    ·exact .inr (.inl (by rw[←h1,←h2]))
   ·simp only[KZ,e];simp;omega
 split
 ·rename_i h1
  split
  ·intro h;cases h
  ·rename_i h16
   intro _
   have e:=hx (CG (c::l)) hwl
   have hlen:((c::l).take (CG (c::l))).length=CG (c::l):=by rw[List.length_take];omega
   have hpos:0<CG (c::l):=by simp[CG,CH,h1]
   refine⟨.inl ⟨rfl,rfl, ?_, ?_, ?_⟩, ?_⟩
   ·simp only[e,hlen];omega
   ·simp only[e];rw[PJ,hlen]
   ·simp only[e]
    obtain⟨j,hj⟩: ∃j,CG (c::l)=j+1:=⟨CG (c::l) - 1,by omega⟩
    rw[hj]
    exact⟨c,_,rfl,h1⟩
   ·simp only[KZ,e,if_true,true_or];rw[hlen];omega
 split
 ·rename_i h1
  have e:=hx (CG (c::l)) hwl
  have hlen:((c::l).take (CG (c::l))).length=CG (c::l):=by rw[List.length_take];omega
  have hpos:0<CG (c::l):=by simp[CG,CH,h1]
  split
  ·intro h;rename_i h2;exact absurd h h2
  ·rename_i h2
   intro _
   simp only[ne_eq,Decidable.not_not]at h2
   have hn: ∃m:Nat,(D1 (s.extract i (i+CG (c::l))).toList).1=m∧m≤9007199254740992∧m<10 ^ CG (c::l):=by
    revert h2
    unfold D1
    split
    ·intro h;cases h
    ·rename_i a1
     split
     ·intro h;cases h
     ·split
      ·intro h;cases h
      ·rename_i a3
       intro _
       refine⟨_,rfl,by omega, ?_⟩
       rw[e]at a1⊢
       have:=UW ((c::l).take (CG (c::l))) 0 0 (by simp) (by simpa using a1)
       rw[hlen]at this
       simpa using this
   obtain⟨m,hm,hle,hlt⟩:=hn
   refine⟨.inr (.inl ⟨rfl,rfl,m,hm,hle⟩), ?_⟩
   have h9:=K7 _ m hpos hlt
   have e:KZ ⟨2,⟨#[]⟩,(D1 (s.extract i (i+CG (c::l))).toList).1,i,i+CG (c::l),0⟩=Lib.decDigits m:=by simp[KZ,hm,Lib.itoa]
   rw[e]
   show(Lib.decDigits m).length+i≤i+CG (c::l)
   omega
 split
 ·rename_i h34
  unfold Eu
  rw[hl']
  cases hk:Ed l with
  |none=>intro h;cases h
  | some k=>
   simp only
   split
   ·intro h;cases h
   ·rename_i h100
    intro _
    obtain⟨e1,e2⟩:=O1 l k hk
    have e:(s.extract (i+1) (i+1+k)).toList=l.take k:=by
     rw[Hj,List.drop_take,hl'];congr 1;omega
    have hlen:(l.take k).length=k:=by rw[List.length_take];omega
    refine⟨.inr (.inr (.inl ⟨rfl,rfl, ?_, ?_⟩)), ?_⟩
    ·simp only[e,hlen];omega
    ·simp only[e,hlen];exact e1
    ·simp only[KZ,e];simp;omega
 split
 ·rename_i h5
  intro _
  have e:=hx 1 (by simp)
  simp only[List.take_succ_cons,List.take_zero]at e
  refine⟨.inr (.inr (.inr ⟨rfl,rfl,.inr (.inr ⟨c,e,h5⟩)⟩)), ?_⟩
  simp only[KZ,e];simp;omega
 ·intro h;cases h
def J5(x:LR):Int×ByteArray×Int:=(x.k,x.t,x.n)
def ff:List LR→Nat
 | []=>0
 |x::L=>(KZ x).length+1+ff L
theorem Y2(s:ByteArray): ∀f i,s.size<i+f→i≤s.size→(CW s f i).1=0→ ∃K,(CW s f i).2.2=K++[GD s]∧(∀x∈K,ov x)∧ff K+2*i≤2*s.size:=by
 intro f
 induction f with
 |zero=>intro i h hi;omega
 | succ f ih=>
  intro i h hi
  simp only[CW]
  split
  ·intro _;exact⟨[],rfl,by simp,by simp[ff];omega⟩
  ·rename_i h1
   split
   ·rename_i h2;intro h;exact absurd h h2
   ·rename_i h2
    simp only[ne_eq,Decidable.not_not]at h2
    intro h3
    obtain⟨n1,n2⟩:=Ei s i (by omega) h2
    have n3:=FN s _ n2
    obtain⟨K,k1,k2,k3⟩:=ih ((B0 s i).nx+Eg false (s.toList.drop (B0 s i).nx)) (by omega) n3 h3
    obtain⟨w1,w2⟩:=eb s i (by omega) h2
    simp only at h3
    rw[if_pos h3,k1]
    refine⟨B0 s i::K,rfl, ?_, ?_⟩
    ·intro x hx
     rcases List.mem_cons.1 hx with e|e
     ·rw[e];exact w1
     ·exact k2 x e
    ·simp only[ff];omega
end Go.Proofs.YtfphceknmgadgaaGreatDoor
namespace Go.Vm
theorem AM.useX{P:Program}{g:FuncId}{args:Array Value}{A A0:AH}{K0 K:Value→AH→Prop}(hc:AM P g args A0 K0)(hs:SubA A0 A)(X:AH)(hX:SubA X A)(hd:Dis A0 X)
  (hk: ∀v D,K0 v D→Dis D X→ ∃A'',SubA A'' D∧K v (A''++X)):AM P g args A K:=by
 intro h hA
 have h1:=hc h (hA.sub hs)
 have key: ∀e h',HU A0 h K0 e h'→HU A h K e h':=by
  rintro e h' ⟨v,D,he,hD,kp,hK⟩
  have hdx: ∀x,AA X x≠none→AA D x=none:=fun x hx=>by
   cases hl:AA X x with
   |none=>exact absurd hl hx
   |some o=>
    have hlt:=hA.lt (hX _ _ hl)
    exact(kp.2 x hlt (hd x hx)).2
  obtain⟨A'',h2,h3⟩:=hk v D hK hdx
  refine⟨v,A''++X,he, ?_, ?_,h3⟩
  ·refine DO.both (hD.sub h2) fun b o hl=> ?_
   have hb:=hA _ _ (hX _ _ hl)
   have hlt:=hA.lt (hX _ _ hl)
   rw[(kp.2 b hlt (hd b (by rw[hl];simp))).1]
   exact hb
  ·refine⟨kp.1,fun b hb hl=> ?_⟩
   obtain⟨q1,q2⟩:=kp.2 b hb (hs.none hl)
   exact⟨q1,AJ (h2.none q2) (hX.none hl)⟩
 unfold E4 at h1⊢
 split
 ·rename_i hcl
  rw[if_pos hcl]at h1
  exact h1.mono0 key
 ·rename_i hcl
  rw[if_neg hcl]at h1
  intro w hw
  obtain⟨v,w',r1,r2,r3⟩:=h1 w hw
  exact⟨v,w',r1,r2,key _ _ r3⟩
theorem AM.sub{P:Program}{g:FuncId}{args:Array Value}{A A0:AH}{K:Value→AH→Prop}(hc:AM P g args A0 K)(hs:SubA A0 A):AM P g args A K:=
 AM.useX hc hs [] (SubA.nil _) (fun x hx=>absurd rfl hx) fun v D h _=>⟨D,SubA.refl _,by rw[List.append_nil];exact h⟩
theorem CO.at[dd:DefD]{c:CxA}{k:List It}{ρ:Ba}{A A':AH}(ha:SubA A A')(hl: @CO dd c k ρ A ()): @CO dd c k ρ A' ():=fun A0 h0 h hA kp=>hl A0 h0 h (hA.sub ha) (kp.sub ha)
end Go.Vm
namespace Go.Vm
theorem ES.as{α β:Type}{f:α→List Value}{g:β→List Value}{n:Nat}{A:AH}{p:Option Addr}{L:List α}{M:List β}(h:ES f n A p L)(e:M.map g=L.map f):ES g n A p M:=by
 have hlen:M.length=L.length:=by have:=congrArg List.length e;simpa using this
 rcases h with h|⟨b,off,cs,ty,fr,h1,h2,h3⟩
 ·exact .inl (List.eq_nil_of_length_eq_zero (by rw[hlen,h];rfl))
 ·refine .inr ⟨b,off,cs,ty,fr,h1,h2,fun i y hi=> ?_⟩
  have hlt:=(List.getElem?_eq_some_iff.1 hi).1
  have hx:=List.getElem?_eq_getElem (show i<L.length by omega)
  have:(M.map g)[i]? =(L.map f)[i]? :=by rw[e]
  rw[List.getElem?_map,List.getElem?_map,hi,hx]at this
  simp only[Option.map_some,Option.some.injEq]at this
  rw[this]
  exact h3 i _ hx
end Go.Vm
namespace Go.Proofs.YtfphceknmgadgaaGreatDoor
open Go.Vm
theorem Lu{P:Program}{g:FuncId}{args:Array Value}{A:AH}{v:Value}(hv:B5 P g args A=some v)(hc:AD P g=true){h:AY}(hs:DO A h):CallsH P g args h fun e h'=>e=.returned v∧Grew h h':=by
 have:=(Ld hv).2 h hs
 unfold E4 at this
 rwa [if_pos hc]at this
end Go.Proofs.YtfphceknmgadgaaGreatDoor
