/-
Lists of texts, names, printed lexemes scanned, calls beside others, arguments opened.
Conditions: none.
-/
import Derived.Test.YtgmfcdeknaeikaaGreatDoorVmAR
import Derived.Lib.ItoaNum
import Derived.Test.YtgmfcdeknaeikaaGreatDoorQx
import Derived.Lib.Join
set_option linter.unusedSimpArgs false
set_option linter.unusedVariables false
set_option linter.defProp false
namespace Go.Proofs.YtgmfcdeknaeikaaGreatDoor
open Go.Vm
set_option maxHeartbeats 1000000
set_option maxRecDepth 20000
def qw:=An @Fm (An @C7 (An @G2 (An @Eg (An @Fl (An @Bh (An @BV (An @ES (An @E0 (An @PD (An @Jg @F6))))))))))
def bs(l:List UInt8):ByteArray:=⟨l.toArray⟩
theorem Ar(l:List UInt8):(bs l).toList=l:=by rw[ByteArray.toList_eq];rfl
theorem Ab(l:List UInt8):(bs l).size=l.length:=by simp[bs,ByteArray.size]
theorem DZ(l:List UInt8):(bs l).data.toList=l:=rfl
theorem Ed{a b:ByteArray}(h:a.data.toList=b.data.toList):a=b:=by
 obtain⟨⟨a⟩⟩:=a;obtain⟨⟨b⟩⟩:=b;simp at h;rw[h]
theorem OK(a b:List UInt8):bs a++bs b=bs (a++b):=Ed (by simp[bs])
theorem pf(s:ByteArray):s=bs s.data.toList:=Ed rfl
theorem HD: ∀(w n:Nat),0<w→n<10 ^ w→(Lib.decDigits n).length≤w
 |0,_,h,_=>by omega
 | w+1,n,_,h=>by
  rw[Lib.decDigits]
  split
  ·simp
  ·rename_i hn
   have hw:0<w:=by
    cases w with
    |zero=>simp at h;omega
    |succ w=>omega
   have:=HD w (n / 10) hw (by rw[Nat.pow_succ]at h;omega)
   simp
   omega
set_option maxHeartbeats 1000000
set_option maxRecDepth 20000
abbrev Gm:=List UInt8
theorem Be{α:Type}{L l:List α}{e:Nat}{a:α}(h3:a::l=L.drop e):L[e]? =some a∧e<L.length∧l=L.drop (e+1)∧L.take (e+1)=L.take e++[a]:=by
 have ha:L[e]? =some a:=by
  have:=congrArg (fun x=>x[0]?) h3
  simpa using this.symm
 refine⟨ha,(List.getElem?_eq_some_iff.1 ha).1, ?_, ?_⟩
 ·have:=congrArg (fun x=>x.drop 1) h3
  simpa[List.drop_drop,Nat.add_comm]using this
 ·rw[List.take_add_one,ha];rfl
theorem drop_nil{α:Type}{L:List α}{e:Nat}(h3:[]=L.drop e)(he:e≤L.length):L.length=e∧L.take e=L:=by
 rcases Nat.lt_or_ge e L.length with h|h
 ·rw[List.drop_eq_getElem_cons h]at h3;cases h3
 ·have:e=L.length:=by omega
  exact⟨this.symm,by rw[this,List.take_length]⟩
def DO(t:Gm):List Value:=[.string (bs t)]
theorem dZ(t:Gm):(DO t).length=1:=rfl
theorem B5.take{α:Type}{f:α→List Value}{n:Nat}{A:AH}{p:Option Addr}{L:List α}(h:B5 f n A p L)(i:Nat):B5 f n A p (L.take i):=by
 rcases h with h|⟨b,off,cs,e,fr,h1,h2,h3⟩
 ·exact .inl (by rw[h];simp)
 ·refine .inr ⟨b,off,cs,e,fr,h1,h2,fun j a hj=>h3 j a ?_⟩
  rw[List.getElem?_take]at hj
  split at hj
  ·exact hj
  ·cases hj
def ei(A:AH)(p:Option Addr)(cap:Nat)(T:List Gm):Prop:=B5 DO 1 A p T∧T.length≤cap∧cap≤9223372036854775807
theorem ei.mono{A B:AH}{p:Option Addr}{cap:Nat}{T:List Gm}(h:ei A p cap T)(hs:SubA A B):ei B p cap T:=⟨h.1.mono hs,h.2⟩
theorem ei.nil{A:AH}:ei A none 0 []:=⟨B5.nil,by simp,by omega⟩
theorem ei.isNone{A:AH}{p:Option Addr}{cap:Nat}{T:List Gm}(h:ei A p cap T)(hp:p.isNone=true):T=[]:=by
 rcases h.1 with h|⟨b,off,cs,e,fr,rfl,_⟩
 ·exact h
 ·cases hp
theorem ei.at(b:Nat)(e:TypeId)(T:List Gm)(h:T.length≤9223372036854775807):ei [(b,.cells (T.flatMap DO).toArray e)] (some ⟨b,0,none⟩) T.length T:=by
 have o:BU DO 1 e (.slice (some ⟨b,0,none⟩) T.length T.length) [(b,.cells (T.flatMap DO).toArray e)] T:=.inl (Ea.at (by rw[Gv DO 1 (fun _=>rfl)]) (by simpa only[maxLen]using h))
 obtain⟨p,cap,h1,h2,h3⟩:=o.read dZ
 cases h1
 exact⟨h3,h2,h⟩
theorem _root_.Go.Vm.Dis.subr{D X Y:AH}(d:Dis D Y)(h:SubA X Y):Dis D X:=fun x hx=>d x fun hn=>by
 cases hl:Vm.AA X x with
 |none=>exact hx hl
 |some o=>rw[h x o hl]at hn;cases hn
theorem AK.new{P:Program}{g:FuncId}{args:Array Value}{A A0:AH}{R:Value→AH→Prop}{K:Value→AH→Prop}(hc:AK P g args A0 fun u D=> ∃v B,u=v∧R v B∧Dis B A0∧SubA (B++A0) D)(hs:SubA A0 A)
  (hk: ∀v B,R v B→Dis B A→K v (B++A)):AK P g args A K:=by
 have h1:AK P g args A fun v D=> ∃B,R v B∧Dis B A∧SubA (B++A) D:=by
  refine AK.go hc hs (fun v D ⟨u,B,_,_,h2,h3⟩=>SubA.trans h2.right h3) ?_
  rintro v D A' ⟨u,B,rfl,h0,h2,h3⟩ hD hA hx
  have hd:Dis B A:=fun x hxa=>by
   cases hb:Vm.AA B x with
   |none=>rfl
   | some o=>
    have e1:Vm.AA D x=some o:=h3 _ _ (SubA.left B A0 _ _ hb)
    have e2:Vm.AA A0 x=none:=by
     cases h0:Vm.AA A0 x with
     |none=>rfl
     |some o2=>have:=h2 x (by rw[h0];simp);rw[hb]at this;cases this
    exact absurd (hx x (by rw[e1];simp) e2) hxa
  exact⟨B,h0,hd,SubA.both (SubA.trans (SubA.trans (SubA.left B A0) h3) hD) hA⟩
 refine AK.use h1 (SubA.refl A) (fun v D ⟨B,_,hd,h3⟩ b hb=> ?_) [] (SubA.nil _) (fun x hx=>absurd rfl hx) (fun v D ⟨B,h0,hd,h3⟩ _=>⟨B++A,h3,by rw[List.append_nil];exact hk v B h0 hd⟩)
 cases hl:Vm.AA A b with
 |none=>exact absurd hl hb
 |some o=>rw[h3 _ _ (hd.right _ _ hl)];simp
theorem AK.newX{P:Program}{g:FuncId}{args:Array Value}{A A0:AH}{R:Value→AH→Prop}{K:Value→AH→Prop}(hc:AK P g args A0 fun u D=> ∃v B,u=v∧R v B∧Dis B A0∧SubA (B++A0) D)(hs:SubA A0 A)
  (hk: ∀v B,R v B→Dis B A→ ∃A'',SubA A'' (B++A)∧K v A''):AK P g args A K:=by
 refine AK.use (K0:=fun v D=> ∃B,R v B∧Dis B A∧D=B++A) (AK.new hc hs fun v B h0 hd=>⟨B,h0,hd,rfl⟩) (SubA.refl A) (fun v D ⟨B,_,hd,h3⟩ b hb=> ?_) [] (SubA.nil _) (fun x hx=>absurd rfl hx) (fun v D ⟨B,h0,hd,h3⟩ _=> ?_)
 ·cases hl:Vm.AA A b with
  |none=>exact absurd hl hb
  |some o=>rw[h3,hd.right _ _ hl];simp
 ·obtain⟨A'',h4,h5⟩:=hk v B h0 hd
  exact⟨A'',by rw[h3];exact h4,by rw[List.append_nil];exact h5⟩
theorem Y8{B X:AH}{x:Nat}{o:Obj}(h:Vm.AA B x=none):SubA ((x,o)::(B++X)) (B++((x,o)::X)):=fun b u hl=>by
 simp only[Vm.AA]at hl
 rw[BA]
 split at hl
 ·rename_i e;subst e;rw[h];simp[Vm.AA,hl]
 ·rename_i e
  rw[BA]at hl
  cases hb:Vm.AA B b with
  |some w=>rw[hb]at hl;exact hl
  |none=>rw[hb]at hl;simp only[Vm.AA,e,if_false];exact hl
set_option maxHeartbeats 1000000
set_option maxRecDepth 20000
def Bp(s:ByteArray):Bool:=decide (0<s.size)&&(decide (s.size≤16)&&((match s.toList with|c::_=>BX c.toNat| []=>false)&&decide (Ax s.toList=s.size)))
theorem GS{s:ByteArray}(h:s.size=0):s.toList=[]:=by
 have:=AP s
 rw[h]at this
 exact List.eq_nil_of_length_eq_zero this
theorem Ry: ∀c,c<256→(E7 c=2∧BX c=true)∨(E7 c≠2∧BX c=false):=by decide+kernel
theorem QT(s:ByteArray)(h:AL):CallsH Tryz.prog 37 #[.string s] h fun r h'=>r=.returned (.bool (Bp s))∧h'=h:=by
 refine AY ⟨Tryz.prog,37,Tryz.f37,23,[0,2],_⟩ (args:=[_]) Tryz.func37 rfl Tryz.ntmps37 (by simp) ?_
 by_cases h0:s.size=0
 ·have e0:(s.toList=[])=True:=by simp[GS h0]
  simp only[Aa,↓Bl,simprocAttr,GS h0]
  simp[Bp,h0]
 have e0:(s.toList=[])=False:=by simp;intro h;have:=AP s;rw[h]at this;simp at this;omega
 obtain⟨c,l,hl⟩:=D3 (s:=s) (i:=0) (by omega)
 obtain⟨hp,hc,hl',hsl,hb⟩:=Bj hl
 have hcl:=CZ c
 have w32:IntKind.i32.wrap (c.toNat:Int)=c.toNat:=OA (by omega) (by omega)
 rw[List.drop_zero]at hl
 have hw:=GV s.toList
 rw[AP]at hw
 have hx:=Ls s 0 (Ax s.toList) (by omega)
 rw[Nat.zero_add]at hx
 by_cases h16:(16:Int)<(s.size:Int)
 ·simp only[Aa,↓Bl,simprocAttr,h16]
  have: ¬s.size≤16:=by omega
  simp[Bp,this]
 have wa: ∀h Q,Ap Tryz.prog 71 #[.string s,.int .i64 0] h Q=Q (.returned (.string (s.extract 0 (Ax s.toList)))) h:=fun h Q=>by
  have e:=E0 s 0 (by omega) (by omega) h Q
  simp only[List.drop_zero,Nat.zero_add]at e
  exact e
 rcases Ry c.toNat hcl with⟨k1,k2⟩|⟨k1,k2⟩
 ·simp only[Aa,↓Bl,simprocAttr,qw,e0,h16,hb,w32,hcl,k1,wa,hx]
  have h1:s.size≤16:=by omega
  have h2:0<s.size:=by omega
  rw[ig]
  simp only[Bp,h1,h2,decide_true,Bool.true_and]
  rw[hl]
  simp only[k2,Bool.true_and]
 ·simp only[Aa,↓Bl,simprocAttr,qw,e0,h16,hb,w32,hcl,k1]
  simp only[Bp]
  rw[hl]
  simp[k2]
theorem aQ(s:ByteArray)(h:AL)(Q:Ending→AL→Prop):Ap Tryz.prog 37 #[.string s] h Q=Q (.returned (.bool (Bp s))) (h):=Ap.exact (by kernel_rfl) (QT s h)
theorem El(s:ByteArray)(A_:AH):Ag Tryz.prog 37 #[.string s] A_=some (.bool (Bp s)):=C3 (by kernel_rfl) (by kernel_rfl) (fun h=>QT s h)
set_option maxHeartbeats 1000000
set_option maxRecDepth 20000
theorem Ds(t:ByteArray)(i j:Nat):(t.extract i j).toList=(t.toList.take j).drop i:=by
 rw[ByteArray.toList_eq,ByteArray.toList_eq,ByteArray.data_extract]
 simp[List.extract_eq_take_drop,List.drop_take]
theorem DD{a b:ByteArray}(h:a.toList=b.toList):a=b:=by
 rw[ByteArray.toList_eq,ByteArray.toList_eq]at h
 exact Ed h
theorem RY{s:ByteArray}{i:Nat}{w r:List UInt8}(h:s.toList.drop i=w++r):(s.extract i (i+w.length)).toList=w:=by
 rw[Ds,List.drop_take,h];simp
def Ad(x:LR):List UInt8:=if x.k=1∨x.k=4 then x.t.toList else if x.k=2 then Lib.itoa x.n else if x.k=3 then 34::(x.t.toList++[34])else []
def sZ(x:LR):Bool:=decide (1≤x.k)&&decide (x.k≤4)
def JG(x:LR):Prop:=
 (x.k=1∧x.n=0∧x.t.toList.length≤16∧Ax x.t.toList=x.t.toList.length∧ ∃c l,x.t.toList=c::l∧BX c.toNat=true)∨
 (x.k=2∧x.t=⟨#[]⟩∧ ∃m:Nat,x.n=m∧m≤9007199254740992)∨
 (x.k=3∧x.n=0∧x.t.toList.length≤100∧Ci (x.t.toList++[34])=some x.t.toList.length)∨
 (x.k=4∧x.n=0∧(x.t.toList=[33,61]∨x.t.toList=[60,61]∨ ∃c,x.t.toList=[c]∧Gb c.toNat=true))
def Stop(r:List UInt8):Prop:=r=[]∨ ∃l,r=32::l
theorem Qf: ∀c,c<256→Gb c=true→BX c=false∧Ae c=false∧c≠34∧CL c=false∧c≠35:=by decide+kernel
theorem GH: ∀c,c<256→BX c=true→Ae c=false∧c≠34∧CL c=false∧c≠35∧c≠33∧c≠60:=by decide+kernel
theorem EW: ∀c,c<256→Ae c=true→BX c=false∧c≠34∧CL c=false∧c≠35∧c≠33∧c≠60∧BG c=true:=by decide+kernel
theorem Nm{r:List UInt8}: ∀(w:List UInt8),Ci (w++[34])=some w.length→Ci (w++34::r)=some w.length
 | [],_=>by simp[Ci]
 | c ::w,h=>by
  simp only[List.cons_append,Ci]at h⊢
  by_cases h1:c.toNat=34
  ·rw[if_pos h1]at h;simp at h
  ·rw[if_neg h1]at h⊢
   by_cases h2:J6 c=true
   ·rw[if_pos h2]at h;cases h
   ·rw[if_neg h2]at h⊢
    cases h3:Ci (w++[34])with
    |none=>rw[h3]at h;cases h
    |some k=>
     rw[h3]at h
     simp only[Option.some.injEq,List.length_cons]at h
     have:k=w.length:=by omega
     subst this
     rw[Nm w h3]
     rfl
theorem DQ: ∀(n:Nat),DM (Lib.decDigits n)=true:=by
 intro n
 induction n using Nat.strongRecOn with
 | ind n ih=>
  rw[Lib.decDigits]
  unfold DM at*
  split
  ·rename_i h
   have:(UInt8.ofNat (48+n)).toNat=48+n:=by simp;omega
   simp[Ae];omega
  ·rename_i h
   have h1:=ih (n / 10) (by omega)
   have:(UInt8.ofNat (48+n % 10)).toNat=48+n % 10:=by simp;omega
   rw[List.all_append,h1,Bool.true_and,List.all_cons,List.all_nil,Bool.and_true,this]
   simp only[Ae,Bool.and_eq_true,decide_eq_true_eq];omega
theorem P5: ∀(a b:List UInt8) (n:Nat),BW (a++b) n=BW b (BW a n)
 | [],_,_=>rfl
 |c::a,b,n=>by simp only[List.cons_append,BW];exact P5 a b _
theorem fk(n:Nat):BW (Lib.decDigits n) 0=n:=by
 induction n using Nat.strongRecOn with
 | ind n ih=>
  rw[Lib.decDigits]
  split
  ·rename_i h
   have:(UInt8.ofNat (48+n)).toNat=48+n:=by simp;omega
   simp only[BW,this];omega
  ·rename_i h
   have h1:=ih (n / 10) (by omega)
   have:(UInt8.ofNat (48+n % 10)).toNat=48+n % 10:=by simp;omega
   rw[P5,h1]
   simp only[BW,this];omega
theorem Hm(n:Nat):Lib.decDigits n≠[]:=by
 rw[Lib.decDigits];split<;>simp
theorem ZE(n:Nat)(h:0<n):(Lib.decDigits n).head? ≠some 48:=by
 induction n using Nat.strongRecOn with
 | ind n ih=>
  rw[Lib.decDigits]
  split
  ·rename_i h1
   have:(UInt8.ofNat (48+n)).toNat=48+n:=by simp;omega
   simp only[List.head?_cons,ne_eq,Option.some.injEq]
   intro e
   rw[e]at this
   simp at this
   omega
  ·rename_i h1
   have h2:=ih (n / 10) (by omega) (by omega)
   cases hd:Lib.decDigits (n / 10)with
   |nil=>exact absurd hd (Hm _)
   |cons c l=>rw[hd]at h2;simpa using h2
theorem ZF(n:Nat):Ni (Lib.decDigits n)=false:=by
 by_cases h:n<10
 ·rw[Lib.decDigits,dif_pos h];rfl
 ·have:=ZE n (by omega)
  simp only[Ni,Bool.and_eq_false_iff,decide_eq_false_iff_not]
  exact .inr this
theorem jH{m:Nat}(h:m≤9007199254740992):EM (Lib.decDigits m)=((m:Int),0):=by
 unfold EM
 rw[if_neg (by rw[DQ];simp),if_neg (by rw[ZF];simp),fk,if_neg (by omega)]
theorem Mi: ∀(w:List UInt8),DM w=true→Ax w=w.length
 | [],_=>rfl
 |c::w,h=>by
  rw[CV,Bool.and_eq_true]at h
  have:=(EW c.toNat (CZ c) h.1).2.2.2.2.2.2
  simp only[Ax,this,if_true,List.length_cons]
  rw[Mi w h.2]
theorem UB: ∀(w:List UInt8) (n k:Nat),n<10 ^ k→DM w=true→BW w n<10 ^ (k+w.length)
 | [],n,k,h,_=>by simpa[BW]using h
 |c::w,n,k,h,hd=>by
  rw[CV,Bool.and_eq_true]at hd
  have hb:=Bm hd.1
  have:=UB w (10*n+(c.toNat - 48)) (k+1) (by rw[Nat.pow_succ];omega) hd.2
  simp only[BW,List.length_cons]
  rw[show k+(w.length+1)=k+1+w.length by omega]
  exact this
theorem KD{x:LR}(h:JG x): ∃c l,Ad x=c::l∧CL c.toNat=false∧c.toNat≠35:=by
 rcases h with⟨k,_,_,_,c,l,h1,h2⟩|⟨k,_,m,hm,_⟩|⟨k,_⟩|⟨k,_,h⟩
 ·have:=GH c.toNat (CZ c) h2
  exact⟨c,l,by simp[Ad,k,h1],this.2.2.1,this.2.2.2.1⟩
 ·cases hd:Lib.decDigits m with
  |nil=>exact absurd hd (Hm m)
  |cons c l=>
   have h1:=DQ m
   rw[hd,CV,Bool.and_eq_true]at h1
   have:=EW c.toNat (CZ c) h1.1
   refine⟨c,l, ?_,this.2.2.1,this.2.2.2.1⟩
   have e:Ad x=Lib.decDigits m:=by simp[Ad,k,hm,Lib.itoa]
   rw[e];exact hd
 ·exact⟨34,_,by simp only[Ad,k];rfl,by decide,by decide⟩
 ·rcases h with h|h|⟨c,h,hc⟩
  ·exact⟨33,[61],by simp[Ad,k,h],by decide,by decide⟩
  ·exact⟨60,[61],by simp[Ad,k,h],by decide,by decide⟩
  ·have:=Qf c.toNat (CZ c) hc
   exact⟨c,[],by simp[Ad,k,h],this.2.2.2.1,this.2.2.2.2⟩
theorem Oy{c:UInt8}{l:List UInt8}(h1:c.toNat≠33)(h2:c.toNat≠60):DJ (c::l)=false:=by
 simp only[DJ,List.isPrefixOf,Bool.or_eq_false_iff,Bool.and_eq_false_iff,beq_eq_false_iff_ne]
 exact⟨.inl fun e=>h1 (by rw[←e];rfl),.inl fun e=>h2 (by rw[←e];rfl)⟩
theorem OC: ∀(l:List UInt8),Ax (l.take (Ax l))=Ax l
 | []=>rfl
 | c::l=>by
  by_cases hc:BG c.toNat=true
  ·simp only[Ax,hc,if_true,List.take_succ_cons]
   rw[OC l]
  ·simp[Ax,hc]
theorem Nn: ∀(l:List UInt8) (k:Nat),Ci l=some k→Ci (l.take k++[34])=some k∧k<l.length
 | [],_,h=>by simp[Ci]at h
 | c ::l,k,h=>by
  simp only[Ci]at h
  by_cases h1:c.toNat=34
  ·rw[if_pos h1]at h;cases h;simp[Ci]
  ·rw[if_neg h1]at h
   by_cases h2:J6 c=true
   ·rw[if_pos h2]at h;cases h
   ·rw[if_neg h2]at h
    cases h3:Ci l with
    |none=>rw[h3]at h;cases h
    |some j=>
     rw[h3]at h
     cases h
     obtain⟨e1,e2⟩:=Nn l j h3
     simp only[List.take_succ_cons,List.cons_append,Ci,h1,if_false,e1,List.length_cons]
     rw[if_neg h2]
     exact⟨rfl,by omega⟩
theorem UY(s:ByteArray)(i:Nat)(hi:i<s.size)(h0:(Al s i).e=0):JG (Al s i)∧(Ad (Al s i)).length+i≤(Al s i).nx:=by
 obtain⟨c,l,hl⟩:=D3 hi
 obtain⟨hp,hc,hl',hsl,hb⟩:=Bj hl
 have hwl:=GV (c::l)
 have hx: ∀k,k≤(c::l).length→(s.extract i (i+k)).toList=(c::l).take k:=fun k hk=>by
  rw[Ds,List.drop_take,hl];congr 1;omega
 revert h0
 unfold Al
 rw[hl]
 simp only
 split
 ·rename_i h1
  intro _
  have:0<l.length:=by
   simp only[DJ,Bool.or_eq_true]at h1
   rcases h1 with h1|h1<;>exact(Hp _ _ _ _ h1).2.2
  have e:=hx 2 (by simp only[List.length_cons];omega)
  cases l with
  |nil=>simp at this
  | cons d l=>
   simp only[List.take_succ_cons,List.take_zero]at e
   refine⟨.inr (.inr (.inr ⟨rfl,rfl, ?_⟩)), ?_⟩
   ·simp only[DJ,List.isPrefixOf,Bool.or_eq_true,Bool.and_eq_true,beq_iff_eq,Bool.and_true]at h1
    simp only[e]
    rcases h1 with⟨h1,h2⟩|⟨h1,h2⟩
    ·exact .inl (by rw[←h1,←h2])
    ·exact .inr (.inl (by rw[←h1,←h2]))
   ·simp only[Ad,e];simp;omega
 split
 ·rename_i h1
  split
  ·intro h;cases h
  ·rename_i h16
   intro _
   have e:=hx (Ax (c::l)) hwl
   have hlen:((c::l).take (Ax (c::l))).length=Ax (c::l):=by rw[List.length_take];omega
   have hpos:0<Ax (c::l):=by simp[Ax,BG,h1]
   refine⟨.inl ⟨rfl,rfl, ?_, ?_, ?_⟩, ?_⟩
   ·simp only[e,hlen];omega
   ·simp only[e];rw[OC,hlen]
   ·simp only[e]
    obtain⟨j,hj⟩: ∃j,Ax (c::l)=j+1:=⟨Ax (c::l) - 1,by omega⟩
    rw[hj]
    exact⟨c,_,rfl,h1⟩
   ·simp only[Ad,e,if_true,true_or];rw[hlen];omega
 split
 ·rename_i h1
  have e:=hx (Ax (c::l)) hwl
  have hlen:((c::l).take (Ax (c::l))).length=Ax (c::l):=by rw[List.length_take];omega
  have hpos:0<Ax (c::l):=by simp[Ax,BG,h1]
  split
  ·intro h;rename_i h2;exact absurd h h2
  ·rename_i h2
   intro _
   simp only[ne_eq,Decidable.not_not]at h2
   have hn: ∃m:Nat,(EM (s.extract i (i+Ax (c::l))).toList).1=m∧m≤9007199254740992∧m<10 ^ Ax (c::l):=by
    revert h2
    unfold EM
    split
    ·intro h;cases h
    ·rename_i a1
     split
     ·intro h;cases h
     ·split
      ·intro h;cases h
      ·rename_i a3
       intro _
       refine⟨_,rfl,by omega, ?_⟩
       rw[e]at a1⊢
       have:=UB ((c::l).take (Ax (c::l))) 0 0 (by simp) (by simpa using a1)
       rw[hlen]at this
       simpa using this
   obtain⟨m,hm,hle,hlt⟩:=hn
   refine⟨.inr (.inl ⟨rfl,rfl,m,hm,hle⟩), ?_⟩
   have h9:=HD _ m hpos hlt
   have e:Ad ⟨2,⟨#[]⟩,(EM (s.extract i (i+Ax (c::l))).toList).1,i,i+Ax (c::l),0⟩=Lib.decDigits m:=by simp[Ad,hm,Lib.itoa]
   rw[e]
   show(Lib.decDigits m).length+i≤i+Ax (c::l)
   omega
 split
 ·rename_i h34
  unfold Fg
  rw[hl']
  cases hk:Ci l with
  |none=>intro h;cases h
  | some k=>
   simp only
   split
   ·intro h;cases h
   ·rename_i h100
    intro _
    obtain⟨e1,e2⟩:=Nn l k hk
    have e:(s.extract (i+1) (i+1+k)).toList=l.take k:=by
     rw[Ds,List.drop_take,hl'];congr 1;omega
    have hlen:(l.take k).length=k:=by rw[List.length_take];omega
    refine⟨.inr (.inr (.inl ⟨rfl,rfl, ?_, ?_⟩)), ?_⟩
    ·simp only[e,hlen];omega
    ·simp only[e,hlen];exact e1
    ·simp only[Ad,e];simp;omega
 split
 ·rename_i h5
  intro _
  have e:=hx 1 (by simp)
  simp only[List.take_succ_cons,List.take_zero]at e
  refine⟨.inr (.inr (.inr ⟨rfl,rfl,.inr (.inr ⟨c,e,h5⟩)⟩)), ?_⟩
  simp only[Ad,e];simp;omega
 ·intro h;cases h
def Cl(x:LR):Int×ByteArray×Int:=(x.k,x.t,x.n)
def ir:List LR→Nat
 | []=>0
 |x::L=>(Ad x).length+1+ir L
theorem cX(s:ByteArray): ∀f i,s.size<i+f→i≤s.size→(A9 s f i).1=0→ ∃K,(A9 s f i).2.2=K++[DS s]∧(∀x∈K,JG x)∧ir K+2*i≤2*s.size:=by
 intro f
 induction f with
 |zero=>intro i h hi;omega
 | succ f ih=>
  intro i h hi
  simp only[A9]
  split
  ·intro _;exact⟨[],rfl,by simp,by simp[ir];omega⟩
  ·rename_i h1
   split
   ·rename_i h2;intro h;exact absurd h h2
   ·rename_i h2
    simp only[ne_eq,Decidable.not_not]at h2
    intro h3
    obtain⟨n1,n2⟩:=DF s i (by omega) h2
    have n3:=Fd s _ n2
    obtain⟨K,k1,k2,k3⟩:=ih ((Al s i).nx+Bi false (s.toList.drop (Al s i).nx)) (by omega) n3 h3
    obtain⟨w1,w2⟩:=UY s i (by omega) h2
    simp only at h3
    rw[if_pos h3,k1]
    refine⟨Al s i::K,rfl, ?_, ?_⟩
    ·intro x hx
     rcases List.mem_cons.1 hx with e|e
     ·rw[e];exact w1
     ·exact k2 x e
    ·simp only[ir];omega
theorem U8{x:LR}(h:JG x)(r:List UInt8):Bi false (Ad x++r)=0:=by
 obtain⟨c,l,h1,h2,h3⟩:=KD h
 rw[h1]
 simp[Bi,h2,h3]
theorem WW(a b:List UInt8)(l:List (List UInt8)):Lib.join (a::b::l) [32]=a++32::Lib.join (b::l) [32]:=by
 simp[Lib.join,List.intercalate,List.intersperse]
end Go.Proofs.YtgmfcdeknaeikaaGreatDoor
namespace Go.Vm
theorem AK.useX{P:Program}{g:FuncId}{args:Array Value}{A A0:AH}{K0 K:Value→AH→Prop}(hc:AK P g args A0 K0)(hs:SubA A0 A)(X:AH)(hX:SubA X A)(hd:Dis A0 X)
  (hk: ∀v D,K0 v D→Dis D X→ ∃A'',SubA A'' D∧K v (A''++X)):AK P g args A K:=by
 intro h hA
 have h1:=hc h (hA.sub hs)
 have key: ∀e h',Gl A0 h K0 e h'→Gl A h K e h':=by
  rintro e h' ⟨v,D,he,hD,kp,hK⟩
  have hdx: ∀x,AA X x≠none→AA D x=none:=fun x hx=>by
   cases hl:AA X x with
   |none=>exact absurd hl hx
   |some o=>
    have hlt:=hA.lt (hX _ _ hl)
    exact(kp.2 x hlt (hd x hx)).2
  obtain⟨A'',h2,h3⟩:=hk v D hK hdx
  refine⟨v,A''++X,he, ?_, ?_,h3⟩
  ·refine CQ.both (hD.sub h2) fun b o hl=> ?_
   have hb:=hA _ _ (hX _ _ hl)
   have hlt:=hA.lt (hX _ _ hl)
   rw[(kp.2 b hlt (hd b (by rw[hl];simp))).1]
   exact hb
  ·refine⟨kp.1,fun b hb hl=> ?_⟩
   obtain⟨q1,q2⟩:=kp.2 b hb (hs.none hl)
   exact⟨q1,AD (h2.none q2) (hX.none hl)⟩
 unfold Di at h1⊢
 split
 ·rename_i hcl
  rw[if_pos hcl]at h1
  exact h1.mono0 key
 ·rename_i hcl
  rw[if_neg hcl]at h1
  intro w hw
  obtain⟨v,w',r1,r2,r3⟩:=h1 w hw
  exact⟨v,w',r1,r2,key _ _ r3⟩
theorem AK.sub{P:Program}{g:FuncId}{args:Array Value}{A A0:AH}{K:Value→AH→Prop}(hc:AK P g args A0 K)(hs:SubA A0 A):AK P g args A K:=
 AK.useX hc hs [] (SubA.nil _) (fun x hx=>absurd rfl hx) fun v D h _=>⟨D,SubA.refl _,by rw[List.append_nil];exact h⟩
theorem Av.at[dd:DefD]{c:CxA}{k:List It}{ρ:Ak}{A A':AH}(ha:SubA A A')(hl: @Av dd c k ρ A ()): @Av dd c k ρ A' ():=fun A0 h0 h hA kp=>hl A0 h0 h (hA.sub ha) (kp.sub ha)
end Go.Vm
namespace Go.Vm
theorem B5.as{α β:Type}{f:α→List Value}{g:β→List Value}{n:Nat}{A:AH}{p:Option Addr}{L:List α}{M:List β}(h:B5 f n A p L)(e:M.map g=L.map f):B5 g n A p M:=by
 have hlen:M.length=L.length:=by have:=congrArg List.length e;simpa using this
 rcases h with h|⟨b,off,cs,ty,fr,h1,h2,h3⟩
 ·exact .inl (List.eq_nil_of_length_eq_zero (by rw[hlen,h];rfl))
 ·refine .inr ⟨b,off,cs,ty,fr,h1,h2,fun i y hi=> ?_⟩
  have hlt:=(List.getElem?_eq_some_iff.1 hi).1
  have hx:=List.getElem?_eq_getElem (show i<L.length by omega)
  have:(M.map g)[i]? =(L.map f)[i]? :=by rw[e]
  rw[List.getElem?_map,List.getElem?_map,hi,hx]at this
  simp only[Option.map_some,Option.some.injEq]at this
  rw[this]
  exact h3 i _ hx
end Go.Vm
namespace Go.Proofs.YtgmfcdeknaeikaaGreatDoor
open Go.Vm
theorem Lf{P:Program}{g:FuncId}{args:Array Value}{A:AH}{v:Value}(hv:Ag P g args A=some v)(hc:BR P g=true){h:AL}(hs:CQ A h):CallsH P g args h fun e h'=>e=.returned v∧Grew h h':=by
 have:=(Mf hv).2 h hs
 unfold Di at this
 rwa [if_pos hc]at this
end Go.Proofs.YtgmfcdeknaeikaaGreatDoor
