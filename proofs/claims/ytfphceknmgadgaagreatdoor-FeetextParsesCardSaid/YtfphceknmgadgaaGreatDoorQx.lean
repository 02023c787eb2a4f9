/-
The lexer as functions of bytes, and in memory.
Conditions: none.
-/
import Derived.Test.YtfphceknmgadgaaGreatDoorVmAE
import Derived.Test.YtfphceknmgadgaaGreatDoorTy
import Derived.Test.YtfphceknmgadgaaGreatDoorVmAppend
import Derived.Test.YtfphceknmgadgaaGreatDoorQy
import Derived.Lib.Bytealg
import Derived.Lib.IndexLaws
import Derived.Laws.RangeAny
set_option linter.unusedSimpArgs false
set_option linter.unusedVariables false
namespace Go.Proofs.YtfphceknmgadgaaGreatDoor
open Go.Vm
set_option maxHeartbeats 1000000
set_option maxRecDepth 20000
theorem H7(s:ByteArray)(c:Int)(h:AY)(Q:Ending→AY→Prop)(hQ:Q (.returned (.int .i64 (Lib.indexByte s.data.toList c.toNat.toUInt8))) h):
  bx Tryz.prog 127 #[.string s,.int .u8 c] h Q:=by
 refine nU (e:=Extern.BytealgIndexByte.indexByte) Tryz.func127 (by kernel_rfl) (by kernel_rfl) (by kernel_rfl) (by kernel_rfl) (fun w=>Lib.run_indexByteString ..) hQ
theorem HD(s:ByteArray)(c:Int)(h:AY):CallsH Tryz.prog 105 #[.string s,.int .u8 c] h fun r h'=>r=.returned (.int .i64 (Lib.indexByte s.data.toList c.toNat.toUInt8))∧h'=h:=by
 refine BO ⟨Tryz.prog,105,Tryz.f105,8,[0,1,4],_⟩ (args:=[_,_]) Tryz.func105 rfl Tryz.ntmps105 (by simp) ?_
 simp only[BE,↓Cl,simprocAttr,forall_const]
 refine H7 s c h _ ?_
 simp only[BE,↓Cl,simprocAttr,forall_const]
theorem AF(s:ByteArray)(c:Int)(h:AY)(Q:Ending→AY→Prop):Bj Tryz.prog 105 #[.string s,.int .u8 c] h Q=Q (.returned (.int .i64 (Lib.indexByte s.data.toList c.toNat.toUInt8))) (h):=Bj.exact (by kernel_rfl) (HD s c h)
theorem BC(s:ByteArray)(c:Int)(A_:AH):B5 Tryz.prog 105 #[.string s,.int .u8 c] A_=some (.int .i64 (Lib.indexByte s.data.toList c.toNat.toUInt8)):=C4 (by kernel_rfl) (by kernel_rfl) (fun h=>HD s c h)
theorem KT(s:ByteArray)(c:Int)(h:AY):CallsH Tryz.prog 77 #[.string s,.int .u8 c] h fun r h'=>r=.returned (.int .i64 (Lib.indexByte s.data.toList c.toNat.toUInt8))∧h'=h:=by
 refine BO ⟨Tryz.prog,77,Tryz.f77,8,[0,1,4],_⟩ (args:=[_,_]) Tryz.func77 rfl Tryz.ntmps77 (by simp) ?_
 simp only[BE,↓Cl,simprocAttr,forall_const,AF]
theorem AN(s:ByteArray)(c:Int)(h:AY)(Q:Ending→AY→Prop):Bj Tryz.prog 77 #[.string s,.int .u8 c] h Q=Q (.returned (.int .i64 (Lib.indexByte s.data.toList c.toNat.toUInt8))) (h):=Bj.exact (by kernel_rfl) (KT s c h)
theorem BU(s:ByteArray)(c:Int)(A_:AH):B5 Tryz.prog 77 #[.string s,.int .u8 c] A_=some (.int .i64 (Lib.indexByte s.data.toList c.toNat.toUInt8)):=C4 (by kernel_rfl) (by kernel_rfl) (fun h=>KT s c h)
theorem KX(s:ByteArray)(c:Int)(h0:0≤c)(h1:c<128)(h:AY):CallsH Tryz.prog 128 #[.string s,.int .i32 c] h fun r h'=>r=.returned (.int .i64 (Lib.indexByte s.data.toList c.toNat.toUInt8))∧h'=h:=by
 refine BO ⟨Tryz.prog,128,Tryz.f128,187,[0,1,4,5,6,7,8,9,10,11,12,13,14,15,16,175,176],_⟩ (args:=[_,_]) Tryz.func128 rfl Tryz.ntmps128 (by simp) ?_
 have h3:IntKind.u8.wrap c=c:=Ha (by omega) (by omega)
 simp only[BE,↓Cl,simprocAttr,forall_const,AF,AN,h0,h1,h3]
theorem AO(s:ByteArray)(c:Int)(h0:0≤c)(h1:c<128)(h:AY)(Q:Ending→AY→Prop):Bj Tryz.prog 128 #[.string s,.int .i32 c] h Q=Q (.returned (.int .i64 (Lib.indexByte s.data.toList c.toNat.toUInt8))) (h):=Bj.exact (by kernel_rfl) (KX s c h0 h1 h)
theorem BS(s:ByteArray)(c:Int)(h0:0≤c)(h1:c<128)(A_:AH):B5 Tryz.prog 128 #[.string s,.int .i32 c] A_=some (.int .i64 (Lib.indexByte s.data.toList c.toNat.toUInt8)):=C4 (by kernel_rfl) (by kernel_rfl) (fun h=>KX s c h0 h1 h)
theorem GY(s:ByteArray)(c:Int)(h0:0≤c)(h1:c<128)(h:AY):CallsH Tryz.prog 106 #[.string s,.int .i32 c] h fun r h'=>r=.returned (.bool (decide (0≤Lib.indexByte s.data.toList c.toNat.toUInt8)))∧h'=h:=by
 refine BO ⟨Tryz.prog,106,Tryz.f106,9,[0,1,4],_⟩ (args:=[_,_]) Tryz.func106 rfl Tryz.ntmps106 (by simp) ?_
 simp only[BE,↓Cl,simprocAttr,forall_const,AF,AN,AO,h0,h1]
theorem AE(s:ByteArray)(c:Int)(h0:0≤c)(h1:c<128)(h:AY)(Q:Ending→AY→Prop):Bj Tryz.prog 106 #[.string s,.int .i32 c] h Q=Q (.returned (.bool (decide (0≤Lib.indexByte s.data.toList c.toNat.toUInt8)))) (h):=Bj.exact (by kernel_rfl) (GY s c h0 h1 h)
theorem Aw(s:ByteArray)(c:Int)(h0:0≤c)(h1:c<128)(A_:AH):B5 Tryz.prog 106 #[.string s,.int .i32 c] A_=some (.bool (decide (0≤Lib.indexByte s.data.toList c.toNat.toUInt8))):=C4 (by kernel_rfl) (by kernel_rfl) (fun h=>GY s c h0 h1 h)
theorem EU: ∀(p l:List UInt8),p.isPrefixOf l=(l.take p.length==p)
 | [],l=>by simp
 |a::p,[]=>by simp[List.isPrefixOf]
 |a::p,b::l=>by
  simp only[List.isPrefixOf,List.length_cons,List.take_succ_cons,EU p l]
  rw[Bool.eq_iff_iff]
  simp only[Bool.and_eq_true,beq_iff_eq,List.cons.injEq]
  exact⟨fun⟨x,y⟩=>⟨x.symm,y⟩,fun⟨x,y⟩=>⟨x.symm,y⟩⟩
theorem MK{s p:ByteArray}(h:p.size≤s.size):((s.extract 0 p.size).toList==p.toList)=p.toList.isPrefixOf s.toList:=by
 rw[EU,ByteArray.toList_eq,ByteArray.toList_eq,ByteArray.toList_eq]
 have:(s.extract 0 p.size).data.toList=s.data.toList.take p.data.toList.length:=by
  rw[ByteArray.data_extract]
  simp
 rw[this]
theorem TA{s p:ByteArray}(h:s.size<p.size):p.toList.isPrefixOf s.toList=false:=by
 rw[EU,ByteArray.toList_eq,ByteArray.toList_eq]
 rw[beq_eq_false_iff_ne]
 intro e
 have:=congrArg List.length e
 simp at this
 omega
theorem HE(s p:ByteArray)(h:AY):CallsH Tryz.prog 107 #[.string s,.string p] h fun r h'=>r=.returned (.bool (p.toList.isPrefixOf s.toList))∧h'=h:=by
 refine BO ⟨Tryz.prog,107,Tryz.f107,18,[0,1,4],_⟩ (args:=[_,_]) Tryz.func107 rfl Tryz.ntmps107 (by simp) ?_
 by_cases hle:((p.size:Int)≤(s.size:Int))
 ·simp only[BE,↓Cl,simprocAttr,forall_const,AF,AN,AO,AE,hle]
  rw[MK (by omega)]
 ·simp only[BE,↓Cl,simprocAttr,forall_const,AF,AN,AO,AE,hle]
  rw[TA (by omega)]
theorem AG(s p:ByteArray)(h:AY)(Q:Ending→AY→Prop):Bj Tryz.prog 107 #[.string s,.string p] h Q=Q (.returned (.bool (p.toList.isPrefixOf s.toList))) (h):=Bj.exact (by kernel_rfl) (HE s p h)
theorem BB(s p:ByteArray)(A_:AH):B5 Tryz.prog 107 #[.string s,.string p] A_=some (.bool (p.toList.isPrefixOf s.toList)):=C4 (by kernel_rfl) (by kernel_rfl) (fun h=>HE s p h)
theorem KB(s p:ByteArray)(h:AY):CallsH Tryz.prog 80 #[.string s,.string p] h fun r h'=>r=.returned (.bool (p.toList.isPrefixOf s.toList))∧h'=h:=by
 refine BO ⟨Tryz.prog,80,Tryz.f80,8,[0,1,4],_⟩ (args:=[_,_]) Tryz.func80 rfl Tryz.ntmps80 (by simp) ?_
 simp only[BE,↓Cl,simprocAttr,forall_const,AF,AN,AO,AE,AG]
theorem AP(s p:ByteArray)(h:AY)(Q:Ending→AY→Prop):Bj Tryz.prog 80 #[.string s,.string p] h Q=Q (.returned (.bool (p.toList.isPrefixOf s.toList))) (h):=Bj.exact (by kernel_rfl) (KB s p h)
theorem BT(s p:ByteArray)(A_:AH):B5 Tryz.prog 80 #[.string s,.string p] A_=some (.bool (p.toList.isPrefixOf s.toList)):=C4 (by kernel_rfl) (by kernel_rfl) (fun h=>KB s p h)
set_option maxHeartbeats 1000000
set_option maxRecDepth 20000
def Fz(c:Nat):Bool:=decide (c=32)||decide (c=9)||decide (c=10)
def Co(c:Nat):Bool:=(decide (97≤c)&&decide (c≤122))||(decide (65≤c)&&decide (c≤90))
def BH(c:Nat):Bool:=decide (48≤c)&&decide (c≤57)
def CH(c:Nat):Bool:=Co c||BH c||decide (c=95)
def QK:List UInt8:=[40,41,123,125,44,59,58,61,60,62,43,45,42,37,46]
def KU(c:Nat):Bool:=decide (c≤126)&&decide (0≤Lib.indexByte QK c.toUInt8)
def E9(c:Nat):Int:=
 if Fz c=true then 1 else if Co c=true then 2 else if BH c=true then 3 else if c=95 then 4 else if c=34 then 5 else if c=35 then 6 else if KU c=true then 7 else 0
theorem NR(c:Nat)(hc:c<256)(h:AY):CallsH Tryz.prog 79 #[.int .i32 (c:Int)] h fun r h'=>r=.returned (.int .i64 (E9 c))∧h'=h:=by
 refine BO ⟨Tryz.prog,79,Tryz.f79,52,[0,2],_⟩ (args:=[_]) Tryz.func79 rfl Tryz.ntmps79 (by simp) ?_
 have e1:(ByteArray.mk #[40,41,123,125,44,59,58,61,60,62,43,45,42,37,46]).data.toList=QK:=rfl
 have e2:(0≤(c:Int))=True:=by simp
 have e4:c.toUInt8=Nat.toUInt8 c:=rfl
 by_cases hm:(c:Int)≤126
 ·have e3:((c:Int)<128)=True:=by simp;omega
  simp only[BE,↓Cl,simprocAttr,forall_const,AF,AN,AO,AE,AG,AP,e1,e2,e3,hm,Int.toNat_natCast]
  simp only[Ending.returned.injEq,Value.int.injEq,true_and]
  clear e1 e2 e3 e4 h
  revert c
  decide+kernel
 ·simp only[BE,↓Cl,simprocAttr,forall_const,AF,AN,AO,AE,AG,AP,e1,e2,hm]
  simp only[Ending.returned.injEq,Value.int.injEq,true_and]
  clear e1 e2 e4 h
  revert c
  decide+kernel
theorem Aa(c:Nat)(hc:c<256)(h:AY)(Q:Ending→AY→Prop):Bj Tryz.prog 79 #[.int .i32 (c:Int)] h Q=Q (.returned (.int .i64 (E9 c))) (h):=Bj.exact (by kernel_rfl) (NR c hc h)
theorem Bn(c:Nat)(hc:c<256)(A_:AH):B5 Tryz.prog 79 #[.int .i32 (c:Int)] A_=some (.int .i64 (E9 c)):=C4 (by kernel_rfl) (by kernel_rfl) (fun h=>NR c hc h)
set_option maxHeartbeats 1000000
set_option maxRecDepth 20000
theorem CM{s:ByteArray}{pos:Nat}{c:UInt8}{l:List UInt8}(h:s.toList.drop pos=c::l): ∃hp:pos<s.size,s[pos]'hp=c∧s.toList.drop (pos+1)=l∧s.size=pos+1+l.length∧s.data[pos]? =some c:=by
 have hn:s.size=s.data.toList.length:=rfl
 rw[ByteArray.toList_eq]at h⊢
 have hlen:(s.data.toList.drop pos).length=l.length+1:=by rw[h];rfl
 have hl2:=hlen
 rw[List.length_drop,←hn]at hl2
 have hp:pos<s.size:=by omega
 have h1:=List.drop_eq_getElem_cons (l:=s.data.toList) (i:=pos) (by omega)
 rw[h]at h1
 simp only[List.cons.injEq]at h1
 refine⟨hp, ?_,h1.2.symm,by omega, ?_⟩
 ·rw[h1.1];rfl
 ·rw[h1.1];simp
theorem Cb{s:ByteArray}{pos:Nat}(h:s.toList.drop pos=[]): ¬pos<s.size:=by
 have hn:s.size=s.data.toList.length:=rfl
 rw[ByteArray.toList_eq]at h
 have:=congrArg List.length h
 rw[List.length_drop,←hn]at this
 simp only[List.length_nil]at this
 omega
theorem BK(s:ByteArray):s.toList.length=s.size:=by rw[ByteArray.toList_eq];rfl
def CG:List UInt8→Nat
 | []=>0
 |c::l=>if CH c.toNat=true then CG l+1 else 0
def Eg:Bool→List UInt8→Nat
 |_,[]=>0
 |r,c::l=>if(r||(Fz c.toNat||decide (c.toNat=35)))=true then Eg ((r||decide (c.toNat=35))&& !decide (c.toNat=10)) l+1 else 0
theorem Gn: ∀l:List UInt8,CG l≤l.length
 | []=>Nat.le_refl _
 |c::l=>by
  have:=Gn l
  simp only[CG,List.length_cons]
  split<;>omega
theorem P9: ∀(r:Bool) (l:List UInt8),Eg r l≤l.length
 |_,[]=>Nat.le_refl _
 |r,c::l=>by
  have:=P9 ((r||decide (c.toNat=35))&& !decide (c.toNat=10)) l
  simp only[Eg,List.length_cons]
  split<;>omega
theorem Kf(c:UInt8):c.toNat<256:=c.toNat_lt
theorem dR: ∀c,c<256→(E9 c==2||E9 c==3||E9 c==4)=CH c:=by decide+kernel
theorem HM(c:Nat):(decide ((97:Int)≤(c:Int))&&decide ((c:Int)≤122)||decide ((65:Int)≤(c:Int))&&decide ((c:Int)≤90))=Co c:=by
 rw[Bool.eq_iff_iff];simp[Co];omega
theorem Ph(c:Nat):(decide ((48:Int)≤(c:Int))&&decide ((c:Int)≤57))=BH c:=by
 rw[Bool.eq_iff_iff];simp[BH];omega
theorem JE(c:UInt8)(h:AY):CallsH Tryz.prog 108 #[.int .u8 (c.toNat:Int)] h fun r h'=>r=.returned (.bool (CH c.toNat))∧h'=h:=by
 refine BO ⟨Tryz.prog,108,Tryz.f108,17,[0,2,3],_⟩ (args:=[_]) Tryz.func108 rfl Tryz.ntmps108 (by simp) ?_
 have hc:=Kf c
 have hw:IntKind.i32.wrap (c.toNat:Int)=c.toNat:=QZ (by omega) (by omega)
 simp only[BE,↓Cl,simprocAttr,forall_const,AF,AN,AO,AE,AG,AP,Aa,hw,hc]
 rw[dR c.toNat hc]
theorem AL(c:UInt8)(h:AY)(Q:Ending→AY→Prop):Bj Tryz.prog 108 #[.int .u8 (c.toNat:Int)] h Q=Q (.returned (.bool (CH c.toNat))) (h):=Bj.exact (by kernel_rfl) (JE c h)
theorem BN(c:UInt8)(A_:AH):B5 Tryz.prog 108 #[.int .u8 (c.toNat:Int)] A_=some (.bool (CH c.toNat)):=C4 (by kernel_rfl) (by kernel_rfl) (fun h=>JE c h)
theorem Re(c:UInt8)(h:AY):CallsH Tryz.prog 86 #[.int .u8 (c.toNat:Int)] h fun r h'=>r=.returned (.bool (Co c.toNat))∧h'=h:=by
 refine BO ⟨Tryz.prog,86,Tryz.f86,17,[0,2],_⟩ (args:=[_]) Tryz.func86 rfl Tryz.ntmps86 (by simp) ?_
 simp only[BE,↓Cl,simprocAttr,forall_const,AF,AN,AO,AE,AG,AP,Aa,AL]
 rw[HM]
theorem Af(c:UInt8)(h:AY)(Q:Ending→AY→Prop):Bj Tryz.prog 86 #[.int .u8 (c.toNat:Int)] h Q=Q (.returned (.bool (Co c.toNat))) (h):=Bj.exact (by kernel_rfl) (Re c h)
theorem CA(c:UInt8)(A_:AH):B5 Tryz.prog 86 #[.int .u8 (c.toNat:Int)] A_=some (.bool (Co c.toNat)):=C4 (by kernel_rfl) (by kernel_rfl) (fun h=>Re c h)
theorem UE(c:UInt8)(h:AY):CallsH Tryz.prog 88 #[.int .u8 (c.toNat:Int)] h fun r h'=>r=.returned (.bool (BH c.toNat))∧h'=h:=by
 refine BO ⟨Tryz.prog,88,Tryz.f88,9,[0,2],_⟩ (args:=[_]) Tryz.func88 rfl Tryz.ntmps88 (by simp) ?_
 simp only[BE,↓Cl,simprocAttr,forall_const,AF,AN,AO,AE,AG,AP,Aa,AL,Af]
 rw[Ph]
theorem Aq(c:UInt8)(h:AY)(Q:Ending→AY→Prop):Bj Tryz.prog 88 #[.int .u8 (c.toNat:Int)] h Q=Q (.returned (.bool (BH c.toNat))) (h):=Bj.exact (by kernel_rfl) (UE c h)
theorem CS(c:UInt8)(A_:AH):B5 Tryz.prog 88 #[.int .u8 (c.toNat:Int)] A_=some (.bool (BH c.toNat)):=C4 (by kernel_rfl) (by kernel_rfl) (fun h=>UE c h)
theorem Dx{s:ByteArray}{i:Nat}(h:i<s.size): ∃c l,s.toList.drop i=c::l:=by
 cases hl:s.toList.drop i with
 |nil=>exact absurd h (Cb hl)
 |cons c l=>exact⟨c,l,rfl⟩
theorem Su(s:ByteArray)(i:Nat)(hi:i≤s.size)(hs:s.size≤100000)(h:AY):CallsH Tryz.prog 81 #[.string s,.int .i64 (i:Int)] h fun r h'=>r=.returned (.string (s.extract i (i+CG (s.toList.drop i))))∧h'=h:=by
 refine BO ⟨Tryz.prog,81,Tryz.f81,23,[0,1,4,5],_⟩ (args:=[_,_]) Tryz.func81 rfl Tryz.ntmps81 (by simp) ?_
 simp only[BE,↓Cl,simprocAttr,forall_const,AF,AN,AO,AE,AG,AP,Aa,AL,Af,Aq]
 obtain⟨e,he,h1,h2,h3⟩: ∃e:Nat,e=i∧i≤e∧e≤s.size∧i+CG (s.toList.drop i)=e+CG (s.toList.drop e):=⟨i,rfl,by omega,hi,rfl⟩
 rw[show(5,some (Value.int .i64 (i:Int)))=(5,some (Value.int .i64 (e:Int))) by rw[he]]
 clear he
 generalize hl:s.toList.drop e=l at h3
 induction l generalizing e with
 |nil=>
  have hlt:((e:Int)<(s.size:Int))=False:=by have:=Cb hl;simp;omega
  have hle:((i:Int)≤(e:Int))=True:=by simp;omega
  have hle2:((e:Int)≤(s.size:Int))=True:=by simp;omega
  refine Bh.intro ?_
  simp only[BE,↓Cl,simprocAttr,forall_const,AF,AN,AO,AE,AG,AP,Aa,AL,Af,Aq,hlt,hle,hle2]
  rw[h3]
  rfl
 | cons c l ih=>
  obtain⟨hp,hc,hl',hsl,hb⟩:=CM hl
  have hlt:((e:Int)<(s.size:Int))=True:=by simp;omega
  have hle:((i:Int)≤(e:Int))=True:=by simp;omega
  have hle2:((e:Int)≤(s.size:Int))=True:=by simp;omega
  have we:IntKind.i64.wrap ((e:Int)+1)=((e+1:Nat):Int):=by rw[Ak (by omega) (by omega)];omega
  refine Bh.intro ?_
  simp only[CG]at h3
  cases hw:CH c.toNat with
  |true=>
   rw[if_pos hw]at h3
   simp only[BE,↓Cl,simprocAttr,forall_const,AF,AN,AO,AE,AG,AP,Aa,AL,Af,Aq,hlt,hb,we,hw]
   exact Bh.weak (ih (e+1) (by omega) (by omega) hl' (by omega)) (by simp only[BW,Ab,Nat.reduceEqDiff,↓reduceIte,reduceCtorEq,Nat.reduceAdd,and_self,and_true])
  |false=>
   rw[if_neg (by simp[hw])]at h3
   simp only[BE,↓Cl,simprocAttr,forall_const,AF,AN,AO,AE,AG,AP,Aa,AL,Af,Aq,hlt,hb,we,hw,hle,hle2]
   rw[h3]
   rfl
theorem Ai(s:ByteArray)(i:Nat)(hi:i≤s.size)(hs:s.size≤100000)(h:AY)(Q:Ending→AY→Prop):Bj Tryz.prog 81 #[.string s,.int .i64 (i:Int)] h Q=Q (.returned (.string (s.extract i (i+CG (s.toList.drop i))))) (h):=Bj.exact (by kernel_rfl) (Su s i hi hs h)
theorem B9(s:ByteArray)(i:Nat)(hi:i≤s.size)(hs:s.size≤100000)(A_:AH):B5 Tryz.prog 81 #[.string s,.int .i64 (i:Int)] A_=some (.string (s.extract i (i+CG (s.toList.drop i)))):=C4 (by kernel_rfl) (by kernel_rfl) (fun h=>Su s i hi hs h)
theorem rH(c:Nat):((c:Int)==95)=decide (c=95):=by rw[Bool.eq_iff_iff];simp;omega
theorem Ww(s:ByteArray)(i:Nat)(hi:i≤s.size)(hs:s.size≤100000)(h:AY):CallsH Tryz.prog 87 #[.string s,.int .i64 (i:Int)] h fun r h'=>r=.returned (.int .i64 ((i+CG (s.toList.drop i):Nat):Int))∧h'=h:=by
 refine BO ⟨Tryz.prog,87,Tryz.f87,30,[0,1,4],_⟩ (args:=[_,_]) Tryz.func87 rfl Tryz.ntmps87 (by simp) ?_
 simp only[BE,↓Cl,simprocAttr,forall_const,AF,AN,AO,AE,AG,AP,Aa,AL,Af,Aq,Ai]
 obtain⟨e,he,h1,h2,h3⟩: ∃e:Nat,e=i∧i≤e∧e≤s.size∧i+CG (s.toList.drop i)=e+CG (s.toList.drop e):=⟨i,rfl,by omega,hi,rfl⟩
 rw[show(1,some (Value.int .i64 (i:Int)))=(1,some (Value.int .i64 (e:Int))) by rw[he]]
 clear he
 generalize hl:s.toList.drop e=l at h3
 induction l generalizing e with
 |nil=>
  have hlt:((e:Int)<(s.size:Int))=False:=by have:=Cb hl;simp;omega
  refine Bh.intro ?_
  simp only[BE,↓Cl,simprocAttr,forall_const,AF,AN,AO,AE,AG,AP,Aa,AL,Af,Aq,Ai,hlt]
  rw[h3]
  rfl
 | cons c l ih=>
  obtain⟨hp,hc,hl',hsl,hb⟩:=CM hl
  have hlt:((e:Int)<(s.size:Int))=True:=by simp;omega
  have we:IntKind.i64.wrap ((e:Int)+1)=((e+1:Nat):Int):=by rw[Ak (by omega) (by omega)];omega
  have e95:=rH c.toNat
  refine Bh.intro ?_
  simp only[CG]at h3
  cases hw:CH c.toNat with
  | true=>
   rw[if_pos hw]at h3
   have K:=ih (e+1) (by omega) (by omega) hl' (by omega)
   simp only[CH]at hw
   cases h5:Co c.toNat<;>cases h6:BH c.toNat<;>simp only[h5,h6,Bool.or_false,Bool.or_true,Bool.false_or,Bool.true_or,Bool.false_eq_true,Bool.true_eq_false]at hw
   all_goals
    simp only[BE,↓Cl,simprocAttr,forall_const,AF,AN,AO,AE,AG,AP,Aa,AL,Af,Aq,Ai,hlt,hb,h5,h6,we,e95,hw]
    exact Bh.weak K (by simp only[BW,Ab,Nat.reduceEqDiff,↓reduceIte,reduceCtorEq,Nat.reduceAdd,and_self,and_true])
  |false=>
   rw[if_neg (by simp[hw])]at h3
   simp only[CH,Bool.or_eq_false_iff]at hw
   simp only[BE,↓Cl,simprocAttr,forall_const,AF,AN,AO,AE,AG,AP,Aa,AL,Af,Aq,Ai,hlt,hb,hw.1.1,hw.1.2,e95,hw.2]
   rw[h3]
   rfl
theorem Ar(s:ByteArray)(i:Nat)(hi:i≤s.size)(hs:s.size≤100000)(h:AY)(Q:Ending→AY→Prop):Bj Tryz.prog 87 #[.string s,.int .i64 (i:Int)] h Q=Q (.returned (.int .i64 ((i+CG (s.toList.drop i):Nat):Int))) (h):=Bj.exact (by kernel_rfl) (Ww s i hi hs h)
theorem CR(s:ByteArray)(i:Nat)(hi:i≤s.size)(hs:s.size≤100000)(A_:AH):B5 Tryz.prog 87 #[.string s,.int .i64 (i:Int)] A_=some (.int .i64 ((i+CG (s.toList.drop i):Nat):Int)):=C4 (by kernel_rfl) (by kernel_rfl) (fun h=>Ww s i hi hs h)
theorem WG: ∀l:List UInt8,Eg true l=if Lib.indexByte l 10= -1 then l.length else(Lib.indexByte l 10).toNat+Eg false (l.drop (Lib.indexByte l 10).toNat)
 | []=>by simp[Eg,Lib.indexByte]
 | c::l=>by
  have ih:=WG l
  have hge:=Lib.indexByte_ge l 10
  by_cases hc:c=10
  ·subst hc
   simp[Eg,Lib.indexByte,Fz]
  ·have h1:c.toNat≠10:=fun h=>hc (by apply UInt8.toNat.inj;exact h)
   simp only[Eg,Lib.indexByte,Bool.true_or,if_true,Bool.true_and,decide_eq_false h1,Bool.not_false,ih,beq_iff_eq,if_neg hc]
   by_cases h2:Lib.indexByte l 10= -1
   ·simp[h2]
   ·have h3:Lib.indexByte l 10+1≠ -1:=by omega
    have h4:(Lib.indexByte l 10+1).toNat=(Lib.indexByte l 10).toNat+1:=by omega
    simp only[h2,if_false,h3,h4,List.drop_succ_cons]
    omega
theorem bD{c:UInt8}(l:List UInt8)(hc:c.toNat=35):Eg false (c::l)=if Lib.indexByte (c::l) 10= -1 then(c::l).length else(Lib.indexByte (c::l) 10).toNat+Eg false ((c::l).drop (Lib.indexByte (c::l) 10).toNat):=by
 rw[←WG]
 simp[Eg,hc]
theorem Ci(s:ByteArray)(i:Nat):(s.extract i s.size).toList=s.toList.drop i:=by
 rw[ByteArray.toList_eq,ByteArray.toList_eq,ByteArray.data_extract]
 simp
 rw[List.take_of_length_le]
 simp
theorem Fj(s:ByteArray)(i:Nat):(s.extract i s.size).data.toList=s.toList.drop i:=by rw[←ByteArray.toList_eq,Ci]
theorem Xj: ∀c,c<256→(E9 c=1∧Fz c=true)∨(E9 c=6∧c=35∧Fz c=false)∨(E9 c≠1∧E9 c≠6∧Fz c=false∧c≠35):=by decide+kernel
theorem Fb: ∀(l:List UInt8) (c:UInt8),Lib.indexByte l c<l.length∨l=[]
 | [],_=>.inr rfl
 | a::l,c=>by
  left
  simp only[Lib.indexByte]
  rcases Fb l c with h|h
  ·split
   ·simp
   ·split
    ·simp;omega
    ·simp;omega
  ·subst h;simp[Lib.indexByte];split<;>simp
theorem aU(s:ByteArray)(i:Nat)(hi:i≤s.size)(hs:s.size≤100000)(h:AY):CallsH Tryz.prog 50 #[.string s,.int .i64 (i:Int)] h fun r h'=>r=.returned (.int .i64 ((i+Eg false (s.toList.drop i):Nat):Int))∧h'=h:=by
 refine BO ⟨Tryz.prog,50,Tryz.f50,34,[0,1,4,5,14],_⟩ (args:=[_,_]) Tryz.func50 rfl Tryz.ntmps50 (by simp) ?_
 simp only[BE,↓Cl,simprocAttr,forall_const,AF,AN,AO,AE,AG,AP,Aa,AL,Af,Aq,Ai,Ar]
 obtain⟨e,he,h1,h2,h3⟩: ∃e:Nat,e=i∧i≤e∧e≤s.size∧i+Eg false (s.toList.drop i)=e+Eg false (s.toList.drop e):=⟨i,rfl,by omega,hi,rfl⟩
 rw[show(1,some (Value.int .i64 (i:Int)))=(1,some (Value.int .i64 (e:Int))) by rw[he]]
 clear he
 obtain⟨m,hm⟩: ∃m,s.size - e≤m:=⟨_,Nat.le_refl _⟩
 induction m generalizing e with
 |zero=>
  have hlt:((e:Int)<(s.size:Int))=False:=by simp;omega
  refine Bh.intro ?_
  simp only[BE,↓Cl,simprocAttr,forall_const,AF,AN,AO,AE,AG,AP,Aa,AL,Af,Aq,Ai,Ar,hlt]
  rw[h3,List.drop_of_length_le (by rw[BK];omega)]
  rfl
 | succ m ih=>
  cases hl:s.toList.drop e with
  |nil=>
   have hlt:((e:Int)<(s.size:Int))=False:=by have:=Cb hl;simp;omega
   refine Bh.intro ?_
   simp only[BE,↓Cl,simprocAttr,forall_const,AF,AN,AO,AE,AG,AP,Aa,AL,Af,Aq,Ai,Ar,hlt]
   rw[h3,hl]
   rfl
  | cons c l=>
   obtain⟨hp,hc,hl',hsl,hb⟩:=CM hl
   have hlt:((e:Int)<(s.size:Int))=True:=by simp;omega
   have hle2:((e:Int)≤(s.size:Int))=True:=by simp;omega
   have he0:(0≤(e:Int))=True:=by simp
   have we:IntKind.i64.wrap ((e:Int)+1)=((e+1:Nat):Int):=by rw[Ak (by omega) (by omega)];omega
   have w32:IntKind.i32.wrap (c.toNat:Int)=c.toNat:=QZ (by have:=Kf c;omega) (by have:=Kf c;omega)
   have hcl:=Kf c
   refine Bh.intro ?_
   rw[hl]at h3
   rcases Xj c.toNat hcl with⟨k1,k2⟩|⟨k1,k2,k3⟩|⟨k1,k2,k3,k4⟩
   ·have k4:c.toNat≠35:=by intro h;rw[h]at k2;cases k2
    simp only[Eg,k2,Bool.false_or,Bool.true_or,if_true,decide_eq_false k4,Bool.false_and]at h3
    simp only[BE,↓Cl,simprocAttr,forall_const,AF,AN,AO,AE,AG,AP,Aa,AL,Af,Aq,Ai,Ar,hlt,hb,w32,hcl,k1,we]
    exact Bh.weak (ih (e+1) (by omega) (by omega) (by rw[hl'];omega) (by omega)) (by simp only[BW,Ab,Nat.reduceEqDiff,↓reduceIte,reduceCtorEq,Nat.reduceAdd,and_self,and_true])
   ·rw [bD l k2]at h3
    have hx:=Lib.indexByte_ge (c::l) 10
    rcases Fb (c::l) 10 with hy|hy
    rotate_left
    ·cases hy
    rw[←hl]at h3 hx hy
    simp only[BE,↓Cl,simprocAttr,forall_const,AF,AN,AO,AE,AG,AP,Aa,AL,Af,Aq,Ai,Ar,hlt,hb,w32,hcl,k1,we,hle2,he0,Fj,show Nat.toUInt8 10=10 from rfl]
    by_cases hz:Lib.indexByte (s.toList.drop e) 10<0
    ·simp only[BE,↓Cl,simprocAttr,forall_const,AF,AN,AO,AE,AG,AP,Aa,AL,Af,Aq,Ai,Ar,hz]
     rw[if_pos (by omega),List.length_drop,BK]at h3
     have:e+(s.size - e)=s.size:=by omega
     rw[h3,this]
    ·simp only[BE,↓Cl,simprocAttr,forall_const,AF,AN,AO,AE,AG,AP,Aa,AL,Af,Aq,Ai,Ar,hz]
     rw[if_neg (by omega),List.drop_drop]at h3
     have hy2:Lib.indexByte (s.toList.drop e) 10<s.size - e:=by rw[List.length_drop,BK]at hy;omega
     obtain⟨q,hq⟩:=Int.eq_ofNat_of_zero_le (Int.not_lt.1 hz)
     rw[hq]at h3 hy2⊢
     have w2:IntKind.i64.wrap ((e:Int)+(q:Int))=((e+q:Nat):Int):=by rw[Ak (by omega) (by omega)];omega
     simp only[BE,↓Cl,simprocAttr,forall_const,AF,AN,AO,AE,AG,AP,Aa,AL,Af,Aq,Ai,Ar,w2]
     have hq0:0<q:=by
      rcases Nat.eq_zero_or_pos q with h0|h0
      ·subst h0
       have:=(Lib.indexByte_some hq).1
       rw[hl]at this
       simp at this
       rw[this]at k2
       cases k2
      ·exact h0
     simp only[Int.toNat_natCast]at h3
     exact Bh.weak (ih (e+q) (by omega) (by omega) (by omega) (by omega)) (by simp only[BW,Ab,Nat.reduceEqDiff,↓reduceIte,reduceCtorEq,Nat.reduceAdd,and_self,and_true])
   ·simp only[BE,↓Cl,simprocAttr,forall_const,AF,AN,AO,AE,AG,AP,Aa,AL,Af,Aq,Ai,Ar,hlt,hb,w32,hcl,k1,k2]
    simp only[Eg,k3,Bool.false_or,decide_eq_false k4,Bool.false_eq_true,if_false]at h3
    rw[h3]
    rfl
theorem BM(s:ByteArray)(i:Nat)(hi:i≤s.size)(hs:s.size≤100000)(h:AY)(Q:Ending→AY→Prop):Bj Tryz.prog 50 #[.string s,.int .i64 (i:Int)] h Q=Q (.returned (.int .i64 ((i+Eg false (s.toList.drop i):Nat):Int))) (h):=Bj.exact (by kernel_rfl) (aU s i hi hs h)
theorem Cm(s:ByteArray)(i:Nat)(hi:i≤s.size)(hs:s.size≤100000)(A_:AH):B5 Tryz.prog 50 #[.string s,.int .i64 (i:Int)] A_=some (.int .i64 ((i+Eg false (s.toList.drop i):Nat):Int)):=C4 (by kernel_rfl) (by kernel_rfl) (fun h=>aU s i hi hs h)
theorem M8(c k:Nat):((c:Int)==(k:Int))=decide (c=k):=by rw[Bool.eq_iff_iff];simp only[beq_iff_eq,decide_eq_true_eq];omega
theorem VY(s:ByteArray)(i:Nat)(hi:i≤s.size)(hs:s.size≤100000)(h:AY):CallsH Tryz.prog 63 #[.string s,.int .i64 (i:Int)] h fun r h'=>r=.returned (.int .i64 ((i+Eg false (s.toList.drop i):Nat):Int))∧h'=h:=by
 refine BO ⟨Tryz.prog,63,Tryz.f63,53,[0,1,4,5],_⟩ (args:=[_,_]) Tryz.func63 rfl Tryz.ntmps63 (by simp) ?_
 simp only[BE,↓Cl,simprocAttr,forall_const,AF,AN,AO,AE,AG,AP,Aa,AL,Af,Aq,Ai,Ar,BM]
 obtain⟨e,r,he,hr,h1,h2,h3⟩: ∃(e:Nat) (r:Bool),e=i∧r=false∧i≤e∧e≤s.size∧i+Eg false (s.toList.drop i)=e+Eg r (s.toList.drop e):=⟨i,false,rfl,rfl,by omega,hi,rfl⟩
 rw[show(1,some (Value.int .i64 (i:Int)))=(1,some (Value.int .i64 (e:Int))) by rw[he],show(5,some (Value.bool false))=(5,some (Value.bool r)) by rw[hr]]
 clear he hr
 generalize hl:s.toList.drop e=l at h3
 induction l generalizing e r with
 |nil=>
  have hlt:((e:Int)<(s.size:Int))=False:=by have:=Cb hl;simp;omega
  refine Bh.intro ?_
  simp only[BE,↓Cl,simprocAttr,forall_const,AF,AN,AO,AE,AG,AP,Aa,AL,Af,Aq,Ai,Ar,BM,hlt]
  rw[h3]
  rfl
 | cons c l ih=>
  obtain⟨hp,hc,hl',hsl,hb⟩:=CM hl
  have hlt:((e:Int)<(s.size:Int))=True:=by simp;omega
  have we:IntKind.i64.wrap ((e:Int)+1)=((e+1:Nat):Int):=by rw[Ak (by omega) (by omega)];omega
  have c32:=M8 c.toNat 32
  have c9:=M8 c.toNat 9
  have c10:=M8 c.toNat 10
  have c35:=M8 c.toNat 35
  simp only[Int.cast_ofNat_Int]at c32 c9 c10 c35
  have c10':((c.toNat:Int) !=10)= !decide (c.toNat=10):=by rw[bne,c10]
  refine Bh.intro ?_
  simp only[Eg]at h3
  cases hw:(r||(Fz c.toNat||decide (c.toNat=35)))with
  | true=>
   rw[if_pos hw]at h3
   have K:=ih (e+1) ((r||decide (c.toNat=35))&& !decide (c.toNat=10)) (by omega) (by omega) hl' (by omega)
   simp only[Fz]at hw
   cases r<;>cases h5:decide (c.toNat=32)<;>cases h6:decide (c.toNat=9)<;>cases h7:decide (c.toNat=10)<;>cases h8:decide (c.toNat=35)<;>
    simp only[h5,h6,h7,h8,Bool.or_false,Bool.or_true,Bool.false_or,Bool.true_or,Bool.false_eq_true,Bool.true_eq_false,Bool.false_and,Bool.true_and,Bool.not_true,Bool.not_false]at hw K<;>
    first|(simp at h5 h6;omega)|(simp at h5 h7;omega)|(simp at h5 h8;omega)|(simp at h6 h7;omega)|(simp at h6 h8;omega)|(simp at h7 h8;omega)|skip
   all_goals
    simp only[BE,↓Cl,simprocAttr,forall_const,AF,AN,AO,AE,AG,AP,Aa,AL,Af,Aq,Ai,Ar,BM,hlt,hb,h5,h6,h7,h8,we,c32,c9,c10,c10',c35,hw]
    exact Bh.weak K (by simp only[BW,Ab,Nat.reduceEqDiff,↓reduceIte,reduceCtorEq,Nat.reduceAdd,and_self,and_true])
  |false=>
   rw[if_neg (by simp[hw])]at h3
   simp only[Fz,Bool.or_eq_false_iff]at hw
   obtain⟨rfl,⟨⟨h5,h6⟩,h7⟩,h8⟩:=hw
   simp only[BE,↓Cl,simprocAttr,forall_const,AF,AN,AO,AE,AG,AP,Aa,AL,Af,Aq,Ai,Ar,BM,hlt,hb,h5,h6,h7,h8,we,c32,c9,c10,c35]
   rw[h3]
   rfl
theorem Az(s:ByteArray)(i:Nat)(hi:i≤s.size)(hs:s.size≤100000)(h:AY)(Q:Ending→AY→Prop):Bj Tryz.prog 63 #[.string s,.int .i64 (i:Int)] h Q=Q (.returned (.int .i64 ((i+Eg false (s.toList.drop i):Nat):Int))) (h):=Bj.exact (by kernel_rfl) (VY s i hi hs h)
theorem CT(s:ByteArray)(i:Nat)(hi:i≤s.size)(hs:s.size≤100000)(A_:AH):B5 Tryz.prog 63 #[.string s,.int .i64 (i:Int)] A_=some (.int .i64 ((i+Eg false (s.toList.drop i):Nat):Int)):=C4 (by kernel_rfl) (by kernel_rfl) (fun h=>VY s i hi hs h)
set_option maxHeartbeats 1000000
set_option maxRecDepth 20000
def CE:List UInt8→Nat→Nat
 | [],a=>a
 |c::l,a=>CE l (10*a+(c.toNat - 48))
theorem QE(l:List UInt8)(a:Nat):a≤CE l a:=by
 induction l generalizing a with
 |nil=>rw[CE];omega
 |cons c l ih=>
  have:=ih (10*a+(c.toNat - 48))
  rw[CE]
  omega
def EV(w:List UInt8):Bool:=w.all fun c=>BH c.toNat
def H4(w:List UInt8):Bool:=decide (1<w.length)&&decide (w.head? =some 48)
def D1(w:List UInt8):Int×Int:=
 if EV w=false then(0,2)else if H4 w=true then(0,2)else if 9007199254740992<CE w 0 then(0,4)else((CE w 0:Nat),0)
theorem Cf{c:Nat}(h:BH c=true):48≤c∧c≤57:=by simpa[BH]using h
theorem XW: ∀c,c<256→(E9 c=3∧BH c=true)∨(E9 c≠3∧BH c=false):=by decide+kernel
theorem RA{w:List UInt8}(h:EV w=true){i:Nat}{c:UInt8}{l:List UInt8}(hd:w.drop i=c::l):BH c.toNat=true:=by
 simp only[EV,List.all_eq_true]at h
 exact h c (List.mem_of_mem_drop (by rw[hd];exact List.mem_cons_self ..))
theorem Gc(c:UInt8)(l:List UInt8):EV (c::l)=(BH c.toNat&&EV l):=rfl
theorem Ro(s:ByteArray)(h0:0<s.size)(hs:s.size≤100000)(h:AY):CallsH Tryz.prog 82 #[.string s] h fun r h'=>r=.returned (.tuple #[.int .i64 (D1 s.toList).1,.int .i64 (D1 s.toList).2])∧h'=h:=by
 refine BO ⟨Tryz.prog,82,Tryz.f82,44,[0,2,3,4,5,6,8,9,28,29],_⟩ (args:=[_]) Tryz.func82 rfl Tryz.ntmps82 (by simp) ?_
 simp only[BE,↓Cl,simprocAttr,forall_const,AF,AN,AO,AE,AG,AP,Aa,AL,Af,Aq,Ai,Ar,BM,Az]
 obtain⟨e,he,h1,h3⟩: ∃(e:Nat),e=0∧e≤s.size∧EV s.toList=EV (s.toList.drop e):=⟨0,rfl,by omega,rfl⟩
 rw[show(9,some (Value.int .i64 0))=(9,some (Value.int .i64 (e:Int))) by rw[he];rfl]
 clear he
 generalize hl:s.toList.drop e=l at h3
 induction l generalizing e with
 | nil=>
  have hlt:((e:Int)<(s.size:Int))=False:=by have:=Cb hl;simp;omega
  have hA:EV s.toList=true:=by rw[h3];rfl
  obtain⟨c0,l0,hl0⟩:=Dx h0
  obtain⟨_,_,_,hsl0,hb0⟩:=CM hl0
  have c48:((c0.toNat:Int)==48)=decide (c0.toNat=48):=M8 c0.toNat 48
  have hlead:H4 s.toList=(decide (1<(s.size:Int))&&decide (c0.toNat=48)):=by
   simp only[List.drop_zero]at hl0
   have e1:(c0::l0).length=s.size:=by rw[←hl0];exact BK s
   rw[Bool.eq_iff_iff]
   simp only[H4,hl0,e1,List.head?_cons,Option.some.injEq,Bool.and_eq_true,decide_eq_true_eq]
   constructor
   ·rintro⟨h1,h2⟩;rw[h2];exact⟨by omega,rfl⟩
   ·rintro⟨h1,h2⟩;exact⟨by omega,UInt8.toNat.inj h2⟩
  refine Bh.intro ?_
  cases hL:H4 s.toList with
  |true=>
   rw[hL]at hlead
   have:=hlead.symm
   simp only[Bool.and_eq_true,decide_eq_true_eq]at this
   simp only[BE,↓Cl,simprocAttr,forall_const,AF,AN,AO,AE,AG,AP,Aa,AL,Af,Aq,Ai,Ar,BM,Az,hlt,hb0,c48,this.1,this.2]
   simp only[D1,hA,hL,if_true,Bool.true_eq_false,if_false]
  | false=>
   rw[hL]at hlead
   have h48:(1<(s.size:Int))→ ¬c0.toNat=48:=by intro h1s h;simp[h1s,h]at hlead
   by_cases h1s:(1<(s.size:Int))
   ·have:=h48 h1s
    simp only[BE,↓Cl,simprocAttr,forall_const,AF,AN,AO,AE,AG,AP,Aa,AL,Af,Aq,Ai,Ar,BM,Az,hlt,hb0,c48,h1s,this]
    obtain⟨k,n,hk,hn,k1,k3,k4⟩: ∃(k n:Nat),k=0∧n=0∧k≤s.size∧CE s.toList 0=CE (s.toList.drop k) n∧n≤9007199254740992:=⟨0,0,rfl,rfl,by omega,rfl,by omega⟩
    rw[show(5,some (Value.int .i64 0))=(5,some (Value.int .i64 (n:Int))) by rw[hn];rfl,show(29,some (Value.int .i64 0))=(29,some (Value.int .i64 (k:Int))) by rw[hk];rfl]
    clear hk hn hl h1 hlt
    generalize hl:s.toList.drop k=l at k3
    induction l generalizing k n with
    |nil=>
     have hlt:((k:Int)<(s.size:Int))=False:=by have:=Cb hl;simp;omega
     refine Bh.intro ?_
     simp only[BE,↓Cl,simprocAttr,forall_const,AF,AN,AO,AE,AG,AP,Aa,AL,Af,Aq,Ai,Ar,BM,Az,hlt]
     rw[CE]at k3
     have k5: ¬(9007199254740992<n):=by omega
     simp only[D1,hA,hL,if_true,Bool.true_eq_false,Bool.false_eq_true,if_false,k3,k5]
    | cons c l ih=>
     obtain⟨hp,hc,hl',hsl,hb⟩:=CM hl
     have hlt:((k:Int)<(s.size:Int))=True:=by simp;omega
     have we:IntKind.i64.wrap ((k:Int)+1)=((k+1:Nat):Int):=by rw[Ak (by omega) (by omega)];omega
     have hd:=Cf (RA hA hl)
     have w1:IntKind.u8.wrap ((c.toNat:Int) - 48)=((c.toNat - 48:Nat):Int):=by rw[Ha (by omega) (by omega)];omega
     have w2:IntKind.i64.wrap ((c.toNat - 48:Nat):Int)=((c.toNat - 48:Nat):Int):=Ak (by omega) (by omega)
     have w3:IntKind.i64.wrap (10*(n:Int))=((10*n:Nat):Int):=by rw[Ak (by omega) (by omega)];omega
     have w4:IntKind.i64.wrap (((10*n:Nat):Int)+((c.toNat - 48:Nat):Int))=((10*n+(c.toNat - 48):Nat):Int):=by rw[Ak (by omega) (by omega)];omega
     rw[CE]at k3
     refine Bh.intro ?_
     by_cases hbig:(9007199254740992:Int)<((10*n+(c.toNat - 48):Nat):Int)
     ·simp only[BE,↓Cl,simprocAttr,forall_const,AF,AN,AO,AE,AG,AP,Aa,AL,Af,Aq,Ai,Ar,BM,Az,hlt,hb,w1,w2,w3,w4,hbig]
      have k5:9007199254740992<CE s.toList 0:=by have:=QE l (10*n+(c.toNat - 48));omega
      simp only[D1,hA,hL,if_true,Bool.true_eq_false,Bool.false_eq_true,if_false,k5]
     ·simp only[BE,↓Cl,simprocAttr,forall_const,AF,AN,AO,AE,AG,AP,Aa,AL,Af,Aq,Ai,Ar,BM,Az,hlt,hb,w1,w2,w3,w4,we,hbig]
      exact Bh.weak (ih (k+1) (10*n+(c.toNat - 48)) (by omega) (by omega) hl' k3) (by simp only[BW,Ab,Nat.reduceEqDiff,↓reduceIte,reduceCtorEq,Nat.reduceAdd,and_self,and_true])
   ·simp only[BE,↓Cl,simprocAttr,forall_const,AF,AN,AO,AE,AG,AP,Aa,AL,Af,Aq,Ai,Ar,BM,Az,hlt,h1s]
    obtain⟨k,n,hk,hn,k1,k3,k4⟩: ∃(k n:Nat),k=0∧n=0∧k≤s.size∧CE s.toList 0=CE (s.toList.drop k) n∧n≤9007199254740992:=⟨0,0,rfl,rfl,by omega,rfl,by omega⟩
    rw[show(5,some (Value.int .i64 0))=(5,some (Value.int .i64 (n:Int))) by rw[hn];rfl,show(29,some (Value.int .i64 0))=(29,some (Value.int .i64 (k:Int))) by rw[hk];rfl]
    clear hk hn hl h1 hlt
    generalize hl:s.toList.drop k=l at k3
    induction l generalizing k n with
    |nil=>
     have hlt:((k:Int)<(s.size:Int))=False:=by have:=Cb hl;simp;omega
     refine Bh.intro ?_
     simp only[BE,↓Cl,simprocAttr,forall_const,AF,AN,AO,AE,AG,AP,Aa,AL,Af,Aq,Ai,Ar,BM,Az,hlt]
     rw[CE]at k3
     have k5: ¬(9007199254740992<n):=by omega
     simp only[D1,hA,hL,if_true,Bool.true_eq_false,Bool.false_eq_true,if_false,k3,k5]
    | cons c l ih=>
     obtain⟨hp,hc,hl',hsl,hb⟩:=CM hl
     have hlt:((k:Int)<(s.size:Int))=True:=by simp;omega
     have we:IntKind.i64.wrap ((k:Int)+1)=((k+1:Nat):Int):=by rw[Ak (by omega) (by omega)];omega
     have hd:=Cf (RA hA hl)
     have w1:IntKind.u8.wrap ((c.toNat:Int) - 48)=((c.toNat - 48:Nat):Int):=by rw[Ha (by omega) (by omega)];omega
     have w2:IntKind.i64.wrap ((c.toNat - 48:Nat):Int)=((c.toNat - 48:Nat):Int):=Ak (by omega) (by omega)
     have w3:IntKind.i64.wrap (10*(n:Int))=((10*n:Nat):Int):=by rw[Ak (by omega) (by omega)];omega
     have w4:IntKind.i64.wrap (((10*n:Nat):Int)+((c.toNat - 48:Nat):Int))=((10*n+(c.toNat - 48):Nat):Int):=by rw[Ak (by omega) (by omega)];omega
     rw[CE]at k3
     refine Bh.intro ?_
     by_cases hbig:(9007199254740992:Int)<((10*n+(c.toNat - 48):Nat):Int)
     ·simp only[BE,↓Cl,simprocAttr,forall_const,AF,AN,AO,AE,AG,AP,Aa,AL,Af,Aq,Ai,Ar,BM,Az,hlt,hb,w1,w2,w3,w4,hbig]
      have k5:9007199254740992<CE s.toList 0:=by have:=QE l (10*n+(c.toNat - 48));omega
      simp only[D1,hA,hL,if_true,Bool.true_eq_false,Bool.false_eq_true,if_false,k5]
     ·simp only[BE,↓Cl,simprocAttr,forall_const,AF,AN,AO,AE,AG,AP,Aa,AL,Af,Aq,Ai,Ar,BM,Az,hlt,hb,w1,w2,w3,w4,we,hbig]
      exact Bh.weak (ih (k+1) (10*n+(c.toNat - 48)) (by omega) (by omega) hl' k3) (by simp only[BW,Ab,Nat.reduceEqDiff,↓reduceIte,reduceCtorEq,Nat.reduceAdd,and_self,and_true])
 | cons c l ih=>
  obtain⟨hp,hc,hl',hsl,hb⟩:=CM hl
  have hlt:((e:Int)<(s.size:Int))=True:=by simp;omega
  have we:IntKind.i64.wrap ((e:Int)+1)=((e+1:Nat):Int):=by rw[Ak (by omega) (by omega)];omega
  have hcl:=Kf c
  have w32:IntKind.i32.wrap (c.toNat:Int)=c.toNat:=QZ (by omega) (by omega)
  rw[Gc]at h3
  refine Bh.intro ?_
  rcases XW c.toNat hcl with⟨k1,k2⟩|⟨k1,k2⟩
  ·rw[k2,Bool.true_and]at h3
   simp only[BE,↓Cl,simprocAttr,forall_const,AF,AN,AO,AE,AG,AP,Aa,AL,Af,Aq,Ai,Ar,BM,Az,hlt,hb,w32,hcl,k1,we]
   exact Bh.weak (ih (e+1) (by omega) hl' h3) (by simp only[BW,Ab,Nat.reduceEqDiff,↓reduceIte,reduceCtorEq,Nat.reduceAdd,and_self,and_true])
  ·rw[k2,Bool.false_and]at h3
   simp only[BE,↓Cl,simprocAttr,forall_const,AF,AN,AO,AE,AG,AP,Aa,AL,Af,Aq,Ai,Ar,BM,Az,hlt,hb,w32,hcl,k1,we]
   simp only[D1,h3,if_true]
theorem A6(s:ByteArray)(h0:0<s.size)(hs:s.size≤100000)(h:AY)(Q:Ending→AY→Prop):Bj Tryz.prog 82 #[.string s] h Q=Q (.returned (.tuple #[.int .i64 (D1 s.toList).1,.int .i64 (D1 s.toList).2])) (h):=Bj.exact (by kernel_rfl) (Ro s h0 hs h)
theorem CC(s:ByteArray)(h0:0<s.size)(hs:s.size≤100000)(A_:AH):B5 Tryz.prog 82 #[.string s] A_=some (.tuple #[.int .i64 (D1 s.toList).1,.int .i64 (D1 s.toList).2]):=C4 (by kernel_rfl) (by kernel_rfl) (fun h=>Ro s h0 hs h)
theorem PC(s:ByteArray)(h0:0<s.size)(hs:s.size≤100000)(h:AY):CallsH Tryz.prog 89 #[.string s] h fun r h'=>r=.returned (.tuple #[.int .i64 (D1 s.toList).1,.int .i64 (D1 s.toList).2])∧h'=h:=by
 refine BO ⟨Tryz.prog,89,Tryz.f89,45,[0,2,3,4,5,6],_⟩ (args:=[_]) Tryz.func89 rfl Tryz.ntmps89 (by simp) ?_
 obtain⟨c0,l0,hl0⟩:=Dx h0
 obtain⟨_,_,_,hsl0,hb0⟩:=CM hl0
 have c48:((c0.toNat:Int)==48)=decide (c0.toNat=48):=M8 c0.toNat 48
 have hlead:H4 s.toList=(decide (1<(s.size:Int))&&decide (c0.toNat=48)):=by
  simp only[List.drop_zero]at hl0
  have e1:(c0::l0).length=s.size:=by rw[←hl0];exact BK s
  rw[Bool.eq_iff_iff]
  simp only[H4,hl0,e1,List.head?_cons,Option.some.injEq,Bool.and_eq_true,decide_eq_true_eq]
  constructor
  ·rintro⟨h1,h2⟩;rw[h2];exact⟨by omega,rfl⟩
  ·rintro⟨h1,h2⟩;exact⟨by omega,UInt8.toNat.inj h2⟩
 simp only[BE,↓Cl,simprocAttr,forall_const,AF,AN,AO,AE,AG,AP,Aa,AL,Af,Aq,Ai,Ar,BM,Az,A6]
 obtain⟨k,n,L,hk,hn,hL,k1,k2,k3⟩: ∃(k n:Nat) (L:Bool),k=0∧n=0∧L=false∧k≤s.size∧EV s.toList=EV (s.toList.drop k)∧((L=false∧CE s.toList 0=CE (s.toList.drop k) n∧n≤9007199254740992)∨(L=true∧9007199254740992<CE s.toList 0)):=⟨0,0,false,rfl,rfl,rfl,by omega,rfl,.inl ⟨rfl,rfl,by omega⟩⟩
 obtain k5:k=0∨H4 s.toList=false:=.inl hk
 rw[show(4,some (Value.int .i64 0))=(4,some (Value.int .i64 (n:Int))) by rw[hn];rfl,show(6,some (Value.int .i64 0))=(6,some (Value.int .i64 (k:Int))) by rw[hk];rfl,show(5,some (Value.bool false))=(5,some (Value.bool L)) by rw[hL]]
 clear hk hn hL
 generalize hl:s.toList.drop k=l at k2 k3
 induction l generalizing k n L with
 | nil=>
  have hlt:((k:Int)<(s.size:Int))=False:=by have:=Cb hl;simp;omega
  have hA:EV s.toList=true:=by rw[k2];rfl
  have hL:H4 s.toList=false:=by
   rcases k5 with h1|h1
   ·have:=Cb hl;omega
   ·exact h1
  refine Bh.intro ?_
  rcases k3 with⟨rfl,k3,k4⟩|⟨rfl,k3⟩
  ·simp only[BE,↓Cl,simprocAttr,forall_const,AF,AN,AO,AE,AG,AP,Aa,AL,Af,Aq,Ai,Ar,BM,Az,A6,hlt]
   rw[CE]at k3
   have k5: ¬(9007199254740992<n):=by omega
   simp only[D1,hA,hL,if_true,Bool.true_eq_false,Bool.false_eq_true,if_false,k3,k5]
  ·simp only[BE,↓Cl,simprocAttr,forall_const,AF,AN,AO,AE,AG,AP,Aa,AL,Af,Aq,Ai,Ar,BM,Az,A6,hlt]
   simp only[D1,hA,hL,if_true,Bool.true_eq_false,Bool.false_eq_true,if_false,k3]
 | cons c l ih=>
  obtain⟨hp,hc,hl',hsl,hb⟩:=CM hl
  have hlt:((k:Int)<(s.size:Int))=True:=by simp;omega
  have we:IntKind.i64.wrap ((k:Int)+1)=((k+1:Nat):Int):=by rw[Ak (by omega) (by omega)];omega
  rw[Gc]at k2
  refine Bh.intro ?_
  cases hd:BH c.toNat with
  |false=>
   rw[hd,Bool.false_and]at k2
   simp only[BE,↓Cl,simprocAttr,forall_const,AF,AN,AO,AE,AG,AP,Aa,AL,Af,Aq,Ai,Ar,BM,Az,A6,hlt,hb,hd]
   simp only[D1,k2,if_true]
  | true=>
   rw[hd,Bool.true_and]at k2
   have hdb:=Cf hd
   cases hL:H4 s.toList with
   |true=>
    have h1:=hlead.symm
    simp only[hL,Bool.and_eq_true,decide_eq_true_eq]at h1
    simp only[BE,↓Cl,simprocAttr,forall_const,AF,AN,AO,AE,AG,AP,Aa,AL,Af,Aq,Ai,Ar,BM,Az,A6,hlt,hb,hd,hb0,h1.1,h1.2,c48]
    simp only[D1,hL,if_true]
    split<;>rfl
   | false=>
    have w1:IntKind.u8.wrap ((c.toNat:Int) - 48)=((c.toNat - 48:Nat):Int):=by rw[Ha (by omega) (by omega)];omega
    have w2:IntKind.i64.wrap ((c.toNat - 48:Nat):Int)=((c.toNat - 48:Nat):Int):=Ak (by omega) (by omega)
    have K: ∀(n':Nat) (L':Bool),_:=fun n' L'=>ih (k+1) n' L' (by omega) (.inr hL) hl' k2
    have hno:(1<(s.size:Int))→ ¬c0.toNat=48:=by
     intro h1 h2
     rw[hL]at hlead
     simp[h1,h2]at hlead
    have go: ∀b,b=decide (1<(s.size:Int))→(b=true→ ¬c0.toNat=48):=fun b hb h1=>hno (by rw[h1]at hb;simpa using hb.symm)
    rcases k3 with⟨rfl,k3,k4⟩|⟨rfl,k3⟩
    ·have w3:IntKind.i64.wrap (10*(n:Int))=((10*n:Nat):Int):=by rw[Ak (by omega) (by omega)];omega
     have w4:IntKind.i64.wrap (((10*n:Nat):Int)+((c.toNat - 48:Nat):Int))=((10*n+(c.toNat - 48):Nat):Int):=by rw[Ak (by omega) (by omega)];omega
     rw[CE]at k3
     have hge:=QE l (10*n+(c.toNat - 48))
     by_cases hbig:(9007199254740992:Int)<((10*n+(c.toNat - 48):Nat):Int)
     ·have K':=K (10*n+(c.toNat - 48)) true (.inr ⟨rfl,by omega⟩)
      by_cases h1:1<(s.size:Int)
      ·have h2:=hno h1
       simp only[BE,↓Cl,simprocAttr,forall_const,AF,AN,AO,AE,AG,AP,Aa,AL,Af,Aq,Ai,Ar,BM,Az,A6,hlt,hb,hd,hb0,h1,h2,c48,w1,w2,w3,w4,we,hbig]
       exact Bh.weak K' (by simp only[BW,Ab,Nat.reduceEqDiff,↓reduceIte,reduceCtorEq,Nat.reduceAdd,and_self,and_true])
      ·simp only[BE,↓Cl,simprocAttr,forall_const,AF,AN,AO,AE,AG,AP,Aa,AL,Af,Aq,Ai,Ar,BM,Az,A6,hlt,hb,hd,hb0,h1,c48,w1,w2,w3,w4,we,hbig]
       exact Bh.weak K' (by simp only[BW,Ab,Nat.reduceEqDiff,↓reduceIte,reduceCtorEq,Nat.reduceAdd,and_self,and_true])
     ·have K':=K (10*n+(c.toNat - 48)) false (.inl ⟨rfl,k3,by omega⟩)
      by_cases h1:1<(s.size:Int)
      ·have h2:=hno h1
       simp only[BE,↓Cl,simprocAttr,forall_const,AF,AN,AO,AE,AG,AP,Aa,AL,Af,Aq,Ai,Ar,BM,Az,A6,hlt,hb,hd,hb0,h1,h2,c48,w1,w2,w3,w4,we,hbig]
       exact Bh.weak K' (by simp only[BW,Ab,Nat.reduceEqDiff,↓reduceIte,reduceCtorEq,Nat.reduceAdd,and_self,and_true])
      ·simp only[BE,↓Cl,simprocAttr,forall_const,AF,AN,AO,AE,AG,AP,Aa,AL,Af,Aq,Ai,Ar,BM,Az,A6,hlt,hb,hd,hb0,h1,c48,w1,w2,w3,w4,we,hbig]
       exact Bh.weak K' (by simp only[BW,Ab,Nat.reduceEqDiff,↓reduceIte,reduceCtorEq,Nat.reduceAdd,and_self,and_true])
    ·have K':=K n true (.inr ⟨rfl,k3⟩)
     by_cases h1:1<(s.size:Int)
     ·have h2:=hno h1
      simp only[BE,↓Cl,simprocAttr,forall_const,AF,AN,AO,AE,AG,AP,Aa,AL,Af,Aq,Ai,Ar,BM,Az,A6,hlt,hb,hd,hb0,h1,h2,c48,w1,w2,we]
      exact Bh.weak K' (by simp only[BW,Ab,Nat.reduceEqDiff,↓reduceIte,reduceCtorEq,Nat.reduceAdd,and_self,and_true])
     ·simp only[BE,↓Cl,simprocAttr,forall_const,AF,AN,AO,AE,AG,AP,Aa,AL,Af,Aq,Ai,Ar,BM,Az,A6,hlt,hb,hd,hb0,h1,c48,w1,w2,we]
      exact Bh.weak K' (by simp only[BW,Ab,Nat.reduceEqDiff,↓reduceIte,reduceCtorEq,Nat.reduceAdd,and_self,and_true])
theorem BD(s:ByteArray)(h0:0<s.size)(hs:s.size≤100000)(h:AY)(Q:Ending→AY→Prop):Bj Tryz.prog 89 #[.string s] h Q=Q (.returned (.tuple #[.int .i64 (D1 s.toList).1,.int .i64 (D1 s.toList).2])) (h):=Bj.exact (by kernel_rfl) (PC s h0 hs h)
theorem Bp(s:ByteArray)(h0:0<s.size)(hs:s.size≤100000)(A_:AH):B5 Tryz.prog 89 #[.string s] A_=some (.tuple #[.int .i64 (D1 s.toList).1,.int .i64 (D1 s.toList).2]):=C4 (by kernel_rfl) (by kernel_rfl) (fun h=>PC s h0 hs h)
set_option maxHeartbeats 1000000
set_option maxRecDepth 20000
def ND(c:UInt8):Bool:=decide (c.toNat<32)||decide (126<c.toNat)
def Ed:List UInt8→Option Nat
 | []=>none
 |c::l=>if c.toNat=34 then some 0 else if ND c=true then none else match Ed l with|some k=>some (k+1)|none=>none
def Jn(l:List UInt8):Bool:=l.all fun c=> !ND c
theorem F3: ∀l:List UInt8,Ed l=if Lib.indexByte l 34<0 then none else if Jn (l.take (Lib.indexByte l 34).toNat)=true then some (Lib.indexByte l 34).toNat else none
 | []=>by simp[Ed,Lib.indexByte]
 | c::l=>by
  have ih:=F3 l
  have hge:=Lib.indexByte_ge l 34
  by_cases hc:c=34
  ·subst hc
   simp[Ed,Lib.indexByte,Jn]
  ·have h1:c.toNat≠34:=fun h=>hc (by apply UInt8.toNat.inj;exact h)
   simp only[Ed,Lib.indexByte,h1,if_false,beq_iff_eq,hc,ih]
   by_cases h2:Lib.indexByte l 34= -1
   ·simp[h2]
   ·have h3: ¬Lib.indexByte l 34+1<0:=by omega
    have h4:(Lib.indexByte l 34+1).toNat=(Lib.indexByte l 34).toNat+1:=by omega
    have h5: ¬Lib.indexByte l 34<0:=by omega
    simp only[h2,if_false,h3,h4,h5,List.take_succ_cons,Jn,List.all_cons]
    cases ND c<;>simp
    split<;>simp_all
def Hc(s:ByteArray):ByteArray×Int:=match Ed (s.toList.drop 1)with|none=>(⟨#[]⟩,2)|some k=>if 100<k then(⟨#[]⟩,3)else(s.extract 1 (1+k),0)
theorem NP(s:ByteArray)(h0:0<s.size)(hs:s.size≤100000)(h:AY):CallsH Tryz.prog 83 #[.string s] h fun r h'=>r=.returned (.tuple #[.string (Hc s).1,.int .i64 (Hc s).2])∧h'=h:=by
 refine BO ⟨Tryz.prog,83,Tryz.f83,36,[0,2,3,4,5,6,17,18],_⟩ (args:=[_]) Tryz.func83 rfl Tryz.ntmps83 (by simp) ?_
 have h1:((1:Int)≤(s.size:Int))=True:=by simp;omega
 simp only[BE,↓Cl,simprocAttr,forall_const,AF,AN,AO,AE,AG,AP,Aa,AL,Af,Aq,Ai,Ar,BM,Az,A6,BD,h1,Fj,show Nat.toUInt8 34=34 from rfl]
 by_cases hz:Lib.indexByte (s.toList.drop 1) 34<0
 ·rw[if_pos hz]
  simp only[Hc,F3,hz,if_true]
 rw[if_neg hz]
 obtain⟨k,hk⟩:=Int.eq_ofNat_of_zero_le (Int.not_lt.1 hz)
 have hkl:k+1<s.size:=by
  have h3:=Fb (s.toList.drop 1) 34
  rw[hk,List.length_drop,BK]at h3
  rcases h3 with h3|h3
  ·omega
  ·rw[h3]at hk;simp[Lib.indexByte]at hk
 have hlit:Ed (s.toList.drop 1)=if Jn ((s.toList.drop 1).take k)=true then some k else none:=by
  rw[F3,if_neg hz,hk]
  simp
 rw[hk]
 have w1:IntKind.i64.wrap (1+(k:Int))=((1+k:Nat):Int):=by rw[Ak (by omega) (by omega)];omega
 rw[w1]
 have hx:(s.extract 1 (1+k)).toList=(s.toList.drop 1).take k:=by
  rw[ByteArray.toList_eq,ByteArray.toList_eq,ByteArray.data_extract]
  simp
 have hxs:(s.extract 1 (1+k)).size=k:=by simp;omega
 refine⟨⟨by omega,by omega⟩, ?_⟩
 simp only[Int.toNat_natCast]
 rw[hxs]
 rw[←hx]at hlit
 generalize hxe:s.extract 1 (1+k)=x at*
 obtain⟨e,he,g1,g2⟩: ∃(e:Nat),e=0∧e≤x.size∧Jn x.toList=Jn (x.toList.drop e):=⟨0,rfl,by omega,rfl⟩
 rw[show(18,some (Value.int .i64 0))=(18,some (Value.int .i64 (e:Int))) by rw[he];rfl]
 clear he
 generalize hl:x.toList.drop e=l at g2
 induction l generalizing e with
 | nil=>
  have hlt:((e:Int)<(k:Int))=False:=by have:=Cb hl;simp;omega
  have hG:Jn x.toList=true:=by rw[g2];rfl
  rw[hG]at hlit
  refine Bh.intro ?_
  simp only[BE,↓Cl,simprocAttr,forall_const,AF,AN,AO,AE,AG,AP,Aa,AL,Af,Aq,Ai,Ar,BM,Az,A6,BD,hlt]
  rw[if_pos rfl]at hlit
  rw[hxs]
  have h100:(100<k)=(100<(k:Int)):=by simp;omega
  split
  ·rename_i h5
   simp only[Hc,hlit,h100,h5,if_true]
  ·rename_i h5
   simp only[Hc,hlit,h100,h5,if_false,hxe]
 | cons c l ih=>
  obtain⟨hp,hc,hl',hsl,hb⟩:=CM hl
  have hlt:((e:Int)<(k:Int))=True:=by simp;omega
  have we:IntKind.i64.wrap ((e:Int)+1)=((e+1:Nat):Int):=by rw[Ak (by omega) (by omega)];omega
  simp only[Jn,List.all_cons]at g2
  refine Bh.intro ?_
  cases hbad:ND c with
  | true=>
   rw[hbad,Bool.not_true,Bool.false_and]at g2
   simp only[ND,Bool.or_eq_true,decide_eq_true_eq]at hbad
   have hi:((c.toNat:Int)<32∨126<(c.toNat:Int))=True:=by simp;omega
   have hg:Jn x.toList=false:=g2
   rw[hg,if_neg (by decide)]at hlit
   by_cases b1:(c.toNat:Int)<32
   ·simp only[BE,↓Cl,simprocAttr,forall_const,AF,AN,AO,AE,AG,AP,Aa,AL,Af,Aq,Ai,Ar,BM,Az,A6,BD,hlt,hb,b1]
    simp only[Hc,hlit]
   ·have b2:126<(c.toNat:Int):=by omega
    simp only[BE,↓Cl,simprocAttr,forall_const,AF,AN,AO,AE,AG,AP,Aa,AL,Af,Aq,Ai,Ar,BM,Az,A6,BD,hlt,hb,b1,b2]
    simp only[Hc,hlit]
  |false=>
   rw[hbad,Bool.not_false,Bool.true_and]at g2
   have:=ih (e+1) (by omega) hl' g2
   simp only[ND,Bool.or_eq_false_iff,decide_eq_false_iff_not]at hbad
   have b1: ¬(c.toNat:Int)<32:=by omega
   have b2: ¬126<(c.toNat:Int):=by omega
   simp only[BE,↓Cl,simprocAttr,forall_const,AF,AN,AO,AE,AG,AP,Aa,AL,Af,Aq,Ai,Ar,BM,Az,A6,BD,hlt,hb,b1,b2,we]
   exact Bh.weak this (by simp only[BW,Ab,Nat.reduceEqDiff,↓reduceIte,reduceCtorEq,Nat.reduceAdd,and_self,and_true])
theorem BQ(s:ByteArray)(h0:0<s.size)(hs:s.size≤100000)(h:AY)(Q:Ending→AY→Prop):Bj Tryz.prog 83 #[.string s] h Q=Q (.returned (.tuple #[.string (Hc s).1,.int .i64 (Hc s).2])) (h):=Bj.exact (by kernel_rfl) (NP s h0 hs h)
theorem Bq(s:ByteArray)(h0:0<s.size)(hs:s.size≤100000)(A_:AH):B5 Tryz.prog 83 #[.string s] A_=some (.tuple #[.string (Hc s).1,.int .i64 (Hc s).2]):=C4 (by kernel_rfl) (by kernel_rfl) (fun h=>NP s h0 hs h)
structure LR where
 k:Int
 t:ByteArray
 n:Int
 a:Nat
 nx:Nat
 e:Int
def LR.cells(r:LR):List Value:=[.int .i64 r.k,.string r.t,.int .i64 r.n,.int .i64 r.a]
def LR.val(r:LR):Value:=.tuple #[.agg #[.int .i64 r.k,.string r.t,.int .i64 r.n,.int .i64 r.a],.int .i64 r.nx,.int .i64 r.e]
def bad(e:Int):LR:=⟨0,⟨#[]⟩,0,0,0,e⟩
def Eu(s:ByteArray)(i:Nat):LR:=match Ed (s.toList.drop (i+1))with|none=>bad 2|some k=>if 100<k then bad 3 else⟨3,s.extract (i+1) (i+1+k),0,i,i+k+2,0⟩
theorem Wd(s:ByteArray)(i:Nat)(hi:i<s.size)(hs:s.size≤100000)(h:AY):CallsH Tryz.prog 90 #[.string s,.int .i64 (i:Int)] h fun r h'=>r=.returned ((Eu s i).val)∧Grew h h':=by
 refine BO ⟨Tryz.prog,90,Tryz.f90,53,[0,1,4,5,6,7],_⟩ (args:=[_,_]) Tryz.func90 rfl Tryz.ntmps90 (by simp) ?_
 have w1:IntKind.i64.wrap ((i:Int)+1)=((i+1:Nat):Int):=by rw[Ak (by omega) (by omega)];omega
 simp only[BE,↓Cl,simprocAttr,forall_const,AF,AN,AO,AE,AG,AP,Aa,AL,Af,Aq,Ai,Ar,BM,Az,A6,BD,BQ,w1]
 obtain⟨e,he,g1,g0,g2⟩: ∃(e:Nat),e=i+1∧e≤s.size∧i+1≤e∧Ed (s.toList.drop (i+1))=(Ed (s.toList.drop e)).map (· +(e - (i+1))):=⟨i+1,rfl,by omega,by omega,by
  cases Ed (s.toList.drop (i+1))<;>simp⟩
 rw[show(7,some (Value.int .i64 ((i+1:Nat):Int)))=(7,some (Value.int .i64 (e:Int))) by rw[he]]
 clear he
 generalize hl:s.toList.drop e=l at g2
 induction l generalizing e with
 |nil=>
  have hE:e=s.size:=by have:=Cb hl;omega
  subst hE
  have hlt:((s.size:Int)<(s.size:Int))=False:=by simp
  refine Bh.intro ?_
  simp only[BE,↓Cl,simprocAttr,forall_const,AF,AN,AO,AE,AG,AP,Aa,AL,Af,Aq,Ai,Ar,BM,Az,A6,BD,BQ,hlt]
  refine⟨?_,.push _ _⟩
  simp only[Eu,g2,Ed,Option.map_none]
  rfl
 | cons c l ih=>
  obtain⟨hp,hc,hl',hsl,hb⟩:=CM hl
  have hlt:((e:Int)<(s.size:Int))=True:=by simp;omega
  have we:IntKind.i64.wrap ((e:Int)+1)=((e+1:Nat):Int):=by rw[Ak (by omega) (by omega)];omega
  have c34:=M8 c.toNat 34
  simp only[Ed]at g2
  refine Bh.intro ?_
  by_cases h34:c.toNat=34
  ·rw[if_pos h34]at g2
   simp only[h34,decide_true,Int.cast_ofNat_Int]at c34
   have hne:((e:Int)==(s.size:Int))=false:=by rw[beq_eq_false_iff_ne];omega
   have w2:IntKind.i64.wrap (IntKind.i64.wrap ((e:Int) - (i:Int)) - 1)=((e - i - 1:Nat):Int):=by
    rw[Ak (n:=(e:Int) - (i:Int)) (by omega) (by omega),Ak (by omega) (by omega)];omega
   simp only[BE,↓Cl,simprocAttr,forall_const,AF,AN,AO,AE,AG,AP,Aa,AL,Af,Aq,Ai,Ar,BM,Az,A6,BD,BQ,hlt,hb,h34,c34,hne,w1,w2]
   simp only[Option.map_some]at g2
   have hk:e=i+1+(0+(e - (i+1))):=by omega
   generalize 0+(e - (i+1))=k at g2 hk
   subst hk
   have e1:i+1+k - i - 1=k:=by omega
   have w3:IntKind.i64.wrap (((i+1+k:Nat):Int)+1)=((i+k+2:Nat):Int):=by rw[Ak (by omega) (by omega)];omega
   rw[e1,w3]
   have h100:(100<k)=(100<(k:Int)):=by simp;omega
   split
   ·rename_i h5
    refine⟨?_,.push _ _⟩
    simp only[Eu,g2,h100,h5,if_true]
    rfl
   ·rename_i h5
    refine⟨⟨by omega,by omega⟩, ?_,.push _ _⟩
    simp only[Eu,g2,h100,h5,if_false]
    rfl
  ·rw[if_neg h34]at g2
   have h34':((c.toNat:Int)=34)=False:=by simp;omega
   cases hbad:ND c with
   | true=>
    rw[if_pos hbad]at g2
    simp only[ND,Bool.or_eq_true,decide_eq_true_eq]at hbad
    by_cases b1:(c.toNat:Int)<32
    ·simp only[BE,↓Cl,simprocAttr,forall_const,AF,AN,AO,AE,AG,AP,Aa,AL,Af,Aq,Ai,Ar,BM,Az,A6,BD,BQ,hlt,hb,b1,h34']
     refine⟨?_,.push _ _⟩
     simp only[Eu,g2,Option.map_none]
     rfl
    ·have b2:126<(c.toNat:Int):=by omega
     simp only[BE,↓Cl,simprocAttr,forall_const,AF,AN,AO,AE,AG,AP,Aa,AL,Af,Aq,Ai,Ar,BM,Az,A6,BD,BQ,hlt,hb,b1,b2,h34']
     refine⟨?_,.push _ _⟩
     simp only[Eu,g2,Option.map_none]
     rfl
   | false=>
    rw[if_neg (by simp[hbad])]at g2
    have:=ih (e+1) (by omega) (by omega) hl' (by
     rw[g2]
     cases Ed l<;>simp
     omega)
    simp only[ND,Bool.or_eq_false_iff,decide_eq_false_iff_not]at hbad
    have b1: ¬(c.toNat:Int)<32:=by omega
    have b2: ¬126<(c.toNat:Int):=by omega
    simp only[BE,↓Cl,simprocAttr,forall_const,AF,AN,AO,AE,AG,AP,Aa,AL,Af,Aq,Ai,Ar,BM,Az,A6,BD,BQ,hlt,hb,b1,b2,we,h34']
    exact Bh.weak this (by simp only[BW,Ab,Nat.reduceEqDiff,↓reduceIte,reduceCtorEq,Nat.reduceAdd,and_self,and_true])
theorem CQ(s:ByteArray)(i:Nat)(hi:i<s.size)(hs:s.size≤100000)(A_:AH):B5 Tryz.prog 90 #[.string s,.int .i64 (i:Int)] A_=some ((Eu s i).val):=LH (by kernel_rfl) (by kernel_rfl) (fun h=>Wd s i hi hs h)
def EG(l:List UInt8):Bool:=List.isPrefixOf [33,61] l||List.isPrefixOf [60,61] l
def B0(s:ByteArray)(i:Nat):LR:=match s.toList.drop i with
 | []=>bad 2
 |c::l=>
  if EG (c::l)=true then⟨4,s.extract i (i+2),0,i,i+2,0⟩
  else if Co c.toNat=true then(if 16<CG (c::l)then bad 3 else⟨1,s.extract i (i+CG (c::l)),0,i,i+CG (c::l),0⟩)
  else if BH c.toNat=true then(if(D1 (s.extract i (i+CG (c::l))).toList).2≠0 then bad (D1 (s.extract i (i+CG (c::l))).toList).2 else⟨2,⟨#[]⟩,(D1 (s.extract i (i+CG (c::l))).toList).1,i,i+CG (c::l),0⟩)
  else if c.toNat=34 then Eu s i
  else if KU c.toNat=true then⟨4,s.extract i (i+1),0,i,i+1,0⟩else bad 2
theorem fO: ∀c,c<256→(E9 c=2∧Co c=true∧CH c=true)∨(E9 c=3∧Co c=false∧BH c=true∧CH c=true)∨(E9 c=5∧Co c=false∧BH c=false∧c=34)∨
  (E9 c=7∧Co c=false∧BH c=false∧c≠34∧KU c=true)∨(E9 c≠2∧E9 c≠3∧E9 c≠5∧E9 c≠7∧Co c=false∧BH c=false∧c≠34∧KU c=false):=by decide+kernel
theorem aQ: ∀c,c<256→KU c=decide (0≤Lib.indexByte QK c.toUInt8):=by decide+kernel
theorem Hd(a b c:UInt8)(l:List UInt8):List.isPrefixOf [a,b] (c::l)=true→c=a∧l.head? =some b∧0<l.length:=by
 intro h
 simp only[List.isPrefixOf,Bool.and_eq_true,beq_iff_eq]at h
 cases l with
 |nil=>simp[List.isPrefixOf]at h
 |cons d l=>simp[List.isPrefixOf]at h;simp[h.1,h.2]
theorem fW(s:ByteArray)(i k:Nat)(h:i+1+k≤s.size):(s.extract i s.size).extract 1 (1+k)=s.extract (i+1) (i+1+k):=by
 rw[ByteArray.extract_extract]
 congr 1
 omega
theorem Oe(s:ByteArray)(i:Nat)(hi:i<s.size):(Hc (s.extract i s.size)=(⟨#[]⟩,2)∧Eu s i=bad 2)∨(Hc (s.extract i s.size)=(⟨#[]⟩,3)∧Eu s i=bad 3)∨
  ∃k,i+1+k<s.size∧Hc (s.extract i s.size)=(s.extract (i+1) (i+1+k),0)∧Eu s i=⟨3,s.extract (i+1) (i+1+k),0,i,i+k+2,0⟩:=by
 have e1:(s.extract i s.size).toList.drop 1=s.toList.drop (i+1):=by rw[Ci,List.drop_drop]
 unfold Hc Eu
 rw[e1]
 cases hk:Ed (s.toList.drop (i+1))with
 |none=>exact .inl ⟨rfl,rfl⟩
 | some k=>
  simp only
  have hlt:i+1+k<s.size:=by
   rw[F3]at hk
   have h3:=Fb (s.toList.drop (i+1)) 34
   split at hk
   ·cases hk
   ·split at hk
    ·cases hk
     rename_i h4 _
     rcases h3 with h3|h3
     ·rw[List.length_drop,BK]at h3;omega
     ·rw[h3]at h4;simp[Lib.indexByte]at h4
    ·cases hk
  split
  ·exact .inr (.inl ⟨rfl,rfl⟩)
  ·exact .inr (.inr ⟨k,hlt,by rw[fW _ _ _ (by omega)],rfl⟩)
theorem Eo(c:UInt8)(l:List UInt8):(ByteArray.mk #[33,61]).toList.isPrefixOf l=List.isPrefixOf [33,61] l:=by rw[ByteArray.toList_eq]
theorem Ev(c:UInt8)(l:List UInt8):(ByteArray.mk #[60,61]).toList.isPrefixOf l=List.isPrefixOf [60,61] l:=by rw[ByteArray.toList_eq]
theorem Jj(s:ByteArray)(i k:Nat)(h:i+k≤s.size):(s.extract i (i+k)).size=k:=by simp;omega
theorem MD(s:ByteArray)(i:Nat)(hi:i<s.size)(hs:s.size≤100000)(h:AY):CallsH Tryz.prog 51 #[.string s,.int .i64 (i:Int)] h fun r h'=>r=.returned ((B0 s i).val)∧Grew h h':=by
 refine BO ⟨Tryz.prog,51,Tryz.f51,107,[0,1,4,5,6,7,8,9,10,11,12,36],_⟩ (args:=[_,_]) Tryz.func51 rfl Tryz.ntmps51 (by simp) ?_
 obtain⟨c,l,hl⟩:=Dx hi
 obtain⟨hp,hc,hl',hsl,hb⟩:=CM hl
 have hcl:=Kf c
 have w32:IntKind.i32.wrap (c.toNat:Int)=c.toNat:=QZ (by omega) (by omega)
 have hle1:((i:Int)≤(s.size:Int))=True:=by simp;omega
 have hle0:((0:Int)≤(i:Int))=True:=by simp
 have w1:IntKind.i64.wrap ((i:Int)+1)=((i+1:Nat):Int):=by rw[Ak (by omega) (by omega)];omega
 have w2:IntKind.i64.wrap ((i:Int)+2)=((i+2:Nat):Int):=by rw[Ak (by omega) (by omega)];omega
 have hle3:((i+1:Nat):Int)≤(s.size:Int):=by omega
 have hle4:((i:Int)≤((i+1:Nat):Int))=True:=by simp;omega
 have hle5:((i:Int)≤((i+2:Nat):Int))=True:=by simp;omega
 have hwl:i+CG (c::l)≤s.size:=by have:=Gn (c::l);simp only[List.length_cons]at this;omega
 have hws:=Jj s i (CG (c::l)) hwl
 have ww:IntKind.i64.wrap ((i:Int)+(CG (c::l):Int))=((i+CG (c::l):Nat):Int):=by rw[Ak (by omega) (by omega)];omega
 have hi':i≤s.size:=by omega
 by_cases hA:List.isPrefixOf [33,61] (c::l)=true
 ·have h2:((i+2:Nat):Int)≤(s.size:Int):=by have:=Hd _ _ _ _ hA;omega
  simp only[BE,↓Cl,simprocAttr,forall_const,AF,AN,AO,AE,AG,AP,Aa,AL,Af,Aq,Ai,Ar,BM,Az,A6,BD,BQ,hle1,hle0,hb,w32,hcl,Ci,hl,Eo c,Ev c,hA,w2,h2,hle5]
  simp only[B0,hl,EG,hA,Bool.true_or,if_true]
  exact⟨rfl,.push _ _⟩
 have hA':List.isPrefixOf [33,61] (c::l)=false:=Bool.eq_false_iff.2 hA
 by_cases hB:List.isPrefixOf [60,61] (c::l)=true
 ·have h2:((i+2:Nat):Int)≤(s.size:Int):=by have:=Hd _ _ _ _ hB;omega
  simp only[BE,↓Cl,simprocAttr,forall_const,AF,AN,AO,AE,AG,AP,Aa,AL,Af,Aq,Ai,Ar,BM,Az,A6,BD,BQ,hle1,hle0,hb,w32,hcl,Ci,hl,Eo c,Ev c,hA',hB,w2,h2,hle5]
  simp only[B0,hl,EG,hA,hB,Bool.or_true,if_true]
  exact⟨rfl,.push _ _⟩
 have hB':List.isPrefixOf [60,61] (c::l)=false:=Bool.eq_false_iff.2 hB
 rcases fO c.toNat hcl with⟨k0,k1,k2⟩|⟨k0,k1,k2,k3⟩|⟨k0,k1,k2,k3⟩|⟨k0,k1,k2,k3,k4⟩|⟨k0,j1,j2,j3,k1,k2,k3,k4⟩
 ·have h16:(16<CG (c::l))=(16<(CG (c::l):Int)):=by simp;omega
  by_cases h5:16<(CG (c::l):Int)
  ·simp only[BE,↓Cl,simprocAttr,forall_const,AF,AN,AO,AE,AG,AP,Aa,AL,Af,Aq,Ai,Ar,BM,Az,A6,BD,BQ,hle1,hle0,hb,w32,hcl,Ci,hl,Eo c,Ev c,hA',hB',k0,hi',hs,hws,h5]
   simp only[B0,hl,EG,hA',hB',k1,Bool.or_false,Bool.false_eq_true,if_true,if_false,h16,h5]
   exact⟨rfl,.push _ _⟩
  ·simp only[BE,↓Cl,simprocAttr,forall_const,AF,AN,AO,AE,AG,AP,Aa,AL,Af,Aq,Ai,Ar,BM,Az,A6,BD,BQ,hle1,hle0,hb,w32,hcl,Ci,hl,Eo c,Ev c,hA',hB',k0,hi',hs,hws,h5,ww]
   simp only[B0,hl,EG,hA',hB',k1,Bool.or_false,Bool.false_eq_true,if_true,if_false,h16,h5]
   exact⟨rfl,.push _ _⟩
 ·have hw0:0<CG (c::l):=by simp[CG,k3]
  have hz:0<(s.extract i (i+CG (c::l))).size:=by omega
  have hz2:CG (c::l)≤100000:=by omega
  by_cases h5:(D1 (s.extract i (i+CG (c::l))).toList).2=0
  ·simp only[BE,↓Cl,simprocAttr,forall_const,AF,AN,AO,AE,AG,AP,Aa,AL,Af,Aq,Ai,Ar,BM,Az,A6,BD,BQ,hle1,hle0,hb,w32,hcl,Ci,hl,Eo c,Ev c,hA',hB',k0,hi',hs,hw0,hz2,h5,ww,hws]
   simp only[B0,hl,EG,hA',hB',k1,k2,Bool.or_false,Bool.false_eq_true,if_true,if_false,h5,ne_eq,not_true_eq_false]
   exact⟨rfl,.push _ _⟩
  ·simp only[BE,↓Cl,simprocAttr,forall_const,AF,AN,AO,AE,AG,AP,Aa,AL,Af,Aq,Ai,Ar,BM,Az,A6,BD,BQ,hle1,hle0,hb,w32,hcl,Ci,hl,Eo c,Ev c,hA',hB',k0,hi',hs,hw0,hz2,h5,ww,hws]
   simp only[B0,hl,EG,hA',hB',k1,k2,Bool.or_false,Bool.false_eq_true,if_true,if_false,h5,ne_eq,not_false_eq_true]
   exact⟨rfl,.push _ _⟩
 ·have hx0:0<(s.extract i s.size).size:=by simp;omega
  have hx1:(s.extract i s.size).size≤100000:=by simp;omega
  rcases Oe s i hi with⟨h5,h6⟩|⟨h5,h6⟩|⟨k,h4,h5,h6⟩
  ·simp only[BE,↓Cl,simprocAttr,forall_const,AF,AN,AO,AE,AG,AP,Aa,AL,Af,Aq,Ai,Ar,BM,Az,A6,BD,BQ,hle1,hle0,hb,w32,hcl,Ci,hl,Eo c,Ev c,hA',hB',k0,hx0,hx1,h5]
   simp only[B0,hl,EG,hA',hB',k1,k2,k3,Bool.or_false,Bool.false_eq_true,if_true,if_false,h6]
   exact⟨rfl,.push _ _⟩
  ·simp only[BE,↓Cl,simprocAttr,forall_const,AF,AN,AO,AE,AG,AP,Aa,AL,Af,Aq,Ai,Ar,BM,Az,A6,BD,BQ,hle1,hle0,hb,w32,hcl,Ci,hl,Eo c,Ev c,hA',hB',k0,hx0,hx1,h5]
   simp only[B0,hl,EG,hA',hB',k1,k2,k3,Bool.or_false,Bool.false_eq_true,if_true,if_false,h6]
   exact⟨rfl,.push _ _⟩
  ·have hk:=Jj s (i+1) k (by omega)
   have w5:IntKind.i64.wrap (IntKind.i64.wrap ((i:Int)+(k:Int))+2)=((i+k+2:Nat):Int):=by
    rw[Ak (n:=(i:Int)+(k:Int)) (by omega) (by omega),Ak (by omega) (by omega)];omega
   simp only[BE,↓Cl,simprocAttr,forall_const,AF,AN,AO,AE,AG,AP,Aa,AL,Af,Aq,Ai,Ar,BM,Az,A6,BD,BQ,hle1,hle0,hb,w32,hcl,Ci,hl,Eo c,Ev c,hA',hB',k0,hx0,hx1,h5,hk,w5]
   simp only[B0,hl,EG,hA',hB',k1,k2,k3,Bool.or_false,Bool.false_eq_true,if_true,if_false,h6]
   exact⟨rfl,.push _ _⟩
 ·simp only[BE,↓Cl,simprocAttr,forall_const,AF,AN,AO,AE,AG,AP,Aa,AL,Af,Aq,Ai,Ar,BM,Az,A6,BD,BQ,hle1,hle0,hb,w32,hcl,Ci,hl,Eo c,Ev c,hA',hB',k0,w1,hle3,hle4]
  simp only[B0,hl,EG,hA',hB',k1,k2,k3,k4,Bool.or_false,Bool.false_eq_true,if_true,if_false]
  exact⟨rfl,.push _ _⟩
 ·simp only[BE,↓Cl,simprocAttr,forall_const,AF,AN,AO,AE,AG,AP,Aa,AL,Af,Aq,Ai,Ar,BM,Az,A6,BD,BQ,hle1,hle0,hb,w32,hcl,Ci,hl,Eo c,Ev c,hA',hB',k0,j1,j2,j3]
  simp only[B0,hl,EG,hA',hB',k1,k2,k3,k4,Bool.or_false,Bool.false_eq_true,if_true,if_false]
  exact⟨rfl,.push _ _⟩
theorem Be(s:ByteArray)(i:Nat)(hi:i<s.size)(hs:s.size≤100000)(A_:AH):B5 Tryz.prog 51 #[.string s,.int .i64 (i:Int)] A_=some ((B0 s i).val):=LH (by kernel_rfl) (by kernel_rfl) (fun h=>MD s i hi hs h)
set_option maxHeartbeats 1000000
set_option maxRecDepth 20000
theorem HS(c:UInt8)(l:List UInt8)(h:EG (c::l)=true):Co c.toNat=false∧BH c.toNat=false∧(c.toNat=34)=False:=by
 simp only[EG,Bool.or_eq_true]at h
 rcases h with h|h<;>have:=(Hd _ _ _ _ h).1<;>subst this<;>decide
theorem PW(s:ByteArray)(i:Nat)(hi:i<s.size)(hs:s.size≤100000)(h:AY):CallsH Tryz.prog 64 #[.string s,.int .i64 (i:Int)] h fun r h'=>r=.returned ((B0 s i).val)∧Grew h h':=by
 refine BO ⟨Tryz.prog,64,Tryz.f64,102,[0,1,4,5,6,7,8,9,10],_⟩ (args:=[_,_]) Tryz.func64 rfl Tryz.ntmps64 (by simp) ?_
 obtain⟨c,l,hl⟩:=Dx hi
 obtain⟨hp,hc,hl',hsl,hb⟩:=CM hl
 have hcl:=Kf c
 have e1:(ByteArray.mk #[40,41,123,125,44,59,58,61,60,62,43,45,42,37,46]).data.toList=QK:=rfl
 have c34:((c.toNat:Int)==34)=decide (c.toNat=34):=M8 c.toNat 34
 have d34:((c.toNat:Int)=34)=(c.toNat=34):=by simp;omega
 have hle1:((i:Int)≤(s.size:Int))=True:=by simp;omega
 have hle0:((0:Int)≤(i:Int))=True:=by simp
 have w1:IntKind.i64.wrap ((i:Int)+1)=((i+1:Nat):Int):=by rw[Ak (by omega) (by omega)];omega
 have w2:IntKind.i64.wrap ((i:Int)+2)=((i+2:Nat):Int):=by rw[Ak (by omega) (by omega)];omega
 have hle3:((i+1:Nat):Int)≤(s.size:Int):=by omega
 have hle4:((i:Int)≤((i+1:Nat):Int))=True:=by simp;omega
 have hle5:((i:Int)≤((i+2:Nat):Int))=True:=by simp;omega
 have hwl:i+CG (c::l)≤s.size:=by have:=Gn (c::l);simp only[List.length_cons]at this;omega
 have hle6:((i+CG (c::l):Nat):Int)≤(s.size:Int):=by omega
 have hle7:(i:Int)≤((i+CG (c::l):Nat):Int):=by omega
 have hws:=Jj s i (CG (c::l)) hwl
 have ww:IntKind.i64.wrap (((i+CG (c::l):Nat):Int) - (i:Int))=((CG (c::l):Nat):Int):=by rw[Ak (by omega) (by omega)];omega
 have hi':i≤s.size:=by omega
 have hm:=aQ c.toNat hcl
 cases h1:Co c.toNat with
 | true=>
  have hp2:EG (c::l)=false:=by
   cases hp2:EG (c::l)with
   |true=>have:=(HS c l hp2).1;rw[h1]at this;cases this
   |false=>rfl
  have h16:(16<CG (c::l))=(16<(CG (c::l):Int)):=by simp;omega
  by_cases h5:16<(CG (c::l):Int)
  ·simp only[BE,↓Cl,simprocAttr,forall_const,AF,AN,AO,AE,AG,AP,Aa,AL,Af,Aq,Ai,Ar,BM,Az,A6,BD,BQ,hle1,hle0,hb,hl,h1,hi',hs,ww,h5]
   simp only[B0,hl,hp2,h1,Bool.or_false,Bool.false_eq_true,if_true,if_false,h16,h5]
   exact⟨rfl,.push _ _⟩
  ·simp only[BE,↓Cl,simprocAttr,forall_const,AF,AN,AO,AE,AG,AP,Aa,AL,Af,Aq,Ai,Ar,BM,Az,A6,BD,BQ,hle1,hle0,hb,hl,h1,hi',hs,ww,h5,hle6,hle7]
   simp only[B0,hl,hp2,h1,Bool.or_false,Bool.false_eq_true,if_true,if_false,h16,h5]
   exact⟨rfl,.push _ _⟩
 | false=>
  cases h2:BH c.toNat with
  | true=>
   have hp2:EG (c::l)=false:=by
    cases hp2:EG (c::l)with
    |true=>have:=(HS c l hp2).2.1;rw[h2]at this;cases this
    |false=>rfl
   have hw0:0<CG (c::l):=by simp[CG,CH,h2]
   have hz2:CG (c::l)≤100000:=by omega
   by_cases h5:(D1 (s.extract i (i+CG (c::l))).toList).2=0
   ·simp only[BE,↓Cl,simprocAttr,forall_const,AF,AN,AO,AE,AG,AP,Aa,AL,Af,Aq,Ai,Ar,BM,Az,A6,BD,BQ,hle1,hle0,hb,hl,h1,h2,hi',hs,ww,h5,hle6,hle7,hws,hw0,hz2]
    simp only[B0,hl,hp2,h1,h2,Bool.or_false,Bool.false_eq_true,if_true,if_false,h5,ne_eq,not_true_eq_false]
    exact⟨rfl,.push _ _⟩
   ·simp only[BE,↓Cl,simprocAttr,forall_const,AF,AN,AO,AE,AG,AP,Aa,AL,Af,Aq,Ai,Ar,BM,Az,A6,BD,BQ,hle1,hle0,hb,hl,h1,h2,hi',hs,ww,h5,hle6,hle7,hws,hw0,hz2]
    simp only[B0,hl,hp2,h1,h2,Bool.or_false,Bool.false_eq_true,if_true,if_false,h5,ne_eq,not_false_eq_true]
    exact⟨rfl,.push _ _⟩
  | false=>
   by_cases h3:c.toNat=34
   ·have hp2:EG (c::l)=false:=by
     cases hp2:EG (c::l)with
     |true=>have:=(HS c l hp2).2.2;rw[this]at h3;cases h3
     |false=>rfl
    have d34:((c.toNat:Int)=34)=True:=by simp;omega
    simp only[BE,↓Cl,simprocAttr,forall_const,AF,AN,AO,AE,AG,AP,Aa,AL,Af,Aq,Ai,Ar,BM,Az,A6,BD,BQ,hle1,hle0,hb,hl,h1,h2,d34]
    refine(Wd s i hi hs _).mono ?_
    rintro _ h2' ⟨rfl,g⟩
    have hk:h2'[Array.size h]? =some (Obj.cells #[Value.int IntKind.i64 0,Value.string {data:= #[]},Value.int IntKind.i64 0,Value.int IntKind.i64 0] 51):=g.get (by simp)
    have hk1:Array.size h<Array.size h2':=by have:=g.le;simp at this;omega
    have hg0:Grew h h2':=Grew.trans (.push _ _) g
    simp only[BE,↓Cl,simprocAttr,forall_const,AF,AN,AO,AE,AG,AP,Aa,AL,Af,Aq,Ai,Ar,BM,Az,A6,BD,BQ,LR.val,hk,hk1]
    have e:B0 s i=Eu s i:=by
     simp only[B0,hl,hp2,h1,h2,Bool.or_false,Bool.false_eq_true,if_true,if_false]
     rw[if_pos h3]
    rw[e]
    exact⟨rfl,hg0.set (Nat.le_refl _) _⟩
   ·have d34:((c.toNat:Int)=34)=False:=by simp;omega
    have c34:((c.toNat:Int)==34)=false:=by rw[beq_eq_false_iff_ne];omega
    by_cases hA:List.isPrefixOf [33,61] (c::l)=true
    ·have h2':((i+2:Nat):Int)≤(s.size:Int):=by have:=Hd _ _ _ _ hA;omega
     simp only[BE,↓Cl,simprocAttr,forall_const,AF,AN,AO,AE,AG,AP,Aa,AL,Af,Aq,Ai,Ar,BM,Az,A6,BD,BQ,hle1,hle0,hb,hl,h1,h2,d34,c34,Ci,Eo c,Ev c,hA,w2,h2',hle5]
     simp only[B0,hl,EG,hA,Bool.true_or,if_true]
     exact⟨rfl,.push _ _⟩
    have hA':List.isPrefixOf [33,61] (c::l)=false:=Bool.eq_false_iff.2 hA
    by_cases hB:List.isPrefixOf [60,61] (c::l)=true
    ·have h2':((i+2:Nat):Int)≤(s.size:Int):=by have:=Hd _ _ _ _ hB;omega
     simp only[BE,↓Cl,simprocAttr,forall_const,AF,AN,AO,AE,AG,AP,Aa,AL,Af,Aq,Ai,Ar,BM,Az,A6,BD,BQ,hle1,hle0,hb,hl,h1,h2,d34,c34,Ci,Eo c,Ev c,hA',hB,w2,h2',hle5]
     simp only[B0,hl,EG,hA,hB,Bool.or_true,if_true]
     exact⟨rfl,.push _ _⟩
    have hB':List.isPrefixOf [60,61] (c::l)=false:=Bool.eq_false_iff.2 hB
    by_cases h7:0≤Lib.indexByte QK c.toNat.toUInt8
    ·have h8:KU c.toNat=true:=by rw[hm];simpa using h7
     have h7:0≤Lib.indexByte [40,41,123,125,44,59,58,61,60,62,43,45,42,37,46] c.toNat.toUInt8:=h7
     simp only[BE,↓Cl,simprocAttr,forall_const,AF,AN,AO,AE,AG,AP,Aa,AL,Af,Aq,Ai,Ar,BM,Az,A6,BD,BQ,hle1,hle0,hb,hl,h1,h2,d34,c34,Ci,Eo c,Ev c,hA',hB',e1,h7,w1,hle3,hle4]
     simp only[B0,hl,EG,hA',hB',h1,h2,h3,h8,Bool.or_false,Bool.false_eq_true,if_true,if_false]
     exact⟨rfl,.push _ _⟩
    ·have h8:KU c.toNat=false:=by rw[hm];simpa using h7
     have h7: ¬0≤Lib.indexByte [40,41,123,125,44,59,58,61,60,62,43,45,42,37,46] c.toNat.toUInt8:=h7
     simp only[BE,↓Cl,simprocAttr,forall_const,AF,AN,AO,AE,AG,AP,Aa,AL,Af,Aq,Ai,Ar,BM,Az,A6,BD,BQ,hle1,hle0,hb,hl,h1,h2,d34,c34,Ci,Eo c,Ev c,hA',hB',e1,h7,w1,hle3,hle4]
     simp only[B0,hl,EG,hA',hB',h1,h2,h3,h8,Bool.or_false,Bool.false_eq_true,if_true,if_false]
     exact⟨rfl,.push _ _⟩
theorem Br(s:ByteArray)(i:Nat)(hi:i<s.size)(hs:s.size≤100000)(A_:AH):B5 Tryz.prog 64 #[.string s,.int .i64 (i:Int)] A_=some ((B0 s i).val):=LH (by kernel_rfl) (by kernel_rfl) (fun h=>PW s i hi hs h)
set_option maxHeartbeats 1000000
set_option maxRecDepth 20000
def GD(s:ByteArray):LR:=⟨0,⟨#[]⟩,0,s.size,0,0⟩
def CW(s:ByteArray):Nat→Nat→Int×Nat×List LR
 |0,_=>(0,0,[])
 | f+1,i=>if s.size≤i then(0,0,[GD s])else if(B0 s i).e≠0 then((B0 s i).e,i,[])else
   ((CW s f ((B0 s i).nx+Eg false (s.toList.drop (B0 s i).nx))).1,(CW s f ((B0 s i).nx+Eg false (s.toList.drop (B0 s i).nx))).2.1,
    if(CW s f ((B0 s i).nx+Eg false (s.toList.drop (B0 s i).nx))).1=0 then B0 s i::(CW s f ((B0 s i).nx+Eg false (s.toList.drop (B0 s i).nx))).2.2 else [])
def AV(s:ByteArray):Int×Nat×List LR:=if 4000<s.size then(3,0,[])else CW s (s.size+1) (Eg false s.toList)
def Dg(l:List LR):List Value:=l.flatMap LR.cells
def QD(R:Int×Nat×List LR)(h:AY)(r:Ending)(h':AY):Prop:= ∃v,r=.returned (.tuple #[v,.int .i64 R.1,.int .i64 R.2.1])∧Dn h' h.size 51 4 v R.2.2.length (Dg R.2.2)∧Grew h h'
theorem rf:Cy Tryz.prog 44 0 []=some (51,#[]):=by kernel_rfl
theorem rA(a b c d:Value):Cy Tryz.prog 44 1 [(0,.agg #[a,b,c,d])]=some (51,#[a,b,c,d]):=by kernel_rfl
theorem Ei(s:ByteArray)(i:Nat)(hi:i<s.size)(h0:(B0 s i).e=0):i<(B0 s i).nx∧(B0 s i).nx≤s.size:=by
 obtain⟨c,l,hl⟩:=Dx hi
 obtain⟨hp,hc,hl',hsl,hb⟩:=CM hl
 have hwl:i+CG (c::l)≤s.size:=by have:=Gn (c::l);simp only[List.length_cons]at this;omega
 revert h0
 unfold B0
 rw[hl]
 simp only
 split
 ·rename_i h1
  have:0<l.length:=by
   simp only[EG,Bool.or_eq_true]at h1
   rcases h1 with h1|h1<;>exact(Hd _ _ _ _ h1).2.2
  intro _;simp only;omega
 split
 ·rename_i h1
  split
  ·intro h;cases h
  ·have:0<CG (c::l):=by simp[CG,CH,h1]
   intro _;simp only;omega
 split
 ·rename_i h1
  split
  ·intro h;rename_i h2;exact absurd h h2
  ·have:0<CG (c::l):=by simp[CG,CH,h1]
   intro _;simp only;omega
 split
 ·rcases Oe s i hi with⟨_,h6⟩|⟨_,h6⟩|⟨k,h4,_,h6⟩
  ·rw[h6];intro h;cases h
  ·rw[h6];intro h;cases h
  ·rw[h6];intro _;simp only;omega
 split
 ·intro _;simp only;omega
 ·intro h;cases h
theorem FN(s:ByteArray)(i:Nat)(hi:i≤s.size):i+Eg false (s.toList.drop i)≤s.size:=by
 have:=P9 false (s.toList.drop i)
 rw[List.length_drop,BK]at this
 omega
def P0(s:ByteArray)(R:Int×Nat×List LR)(acc:List LR)(m i:Nat):Prop:=s.size<i+m∧R=((CW s m i).1,(CW s m i).2.1,if(CW s m i).1=0 then acc++(CW s m i).2.2 else [])
theorem P0.last{s:ByteArray}{R:Int×Nat×List LR}{acc:List LR}{m i:Nat}(h:P0 s R acc m i)(hi:i≤s.size)(hn: ¬i<s.size):R=(0,0,acc++[GD s]):=by
 obtain⟨h1,rfl⟩:=h
 cases m with
 |zero=>omega
 |succ m=>
  have:s.size≤i:=by omega
  simp[CW,this]
theorem P0.err{s:ByteArray}{R:Int×Nat×List LR}{acc:List LR}{m i:Nat}(h:P0 s R acc m i)(hi:i<s.size)(he: ¬(B0 s i).e=0):R=((B0 s i).e,i,[]):=by
 obtain⟨h1,rfl⟩:=h
 cases m with
 |zero=>omega
 |succ m=>
  have: ¬s.size≤i:=by omega
  simp[CW,this,he]
theorem P0.next{s:ByteArray}{R:Int×Nat×List LR}{acc:List LR}{m i:Nat}(h:P0 s R acc m i)(hi:i<s.size)(he:(B0 s i).e=0): ∃m',m=m'+1∧P0 s R (acc++[B0 s i]) m' ((B0 s i).nx+Eg false (s.toList.drop (B0 s i).nx)):=by
 obtain⟨h1,rfl⟩:=h
 cases m with
 |zero=>omega
 |succ m=>
  refine⟨m,rfl, ?_, ?_⟩
  ·have:=Ei s i hi he;omega
  have: ¬s.size≤i:=by omega
  simp only[CW,this,if_false,he,ne_eq,not_true_eq_false]
  split<;>simp
theorem nq(s:ByteArray)(hs:s.size≤100000)(h:AY):CallsH Tryz.prog 18 #[.string s] h (QD (AV s) h):=by
 refine BO ⟨Tryz.prog,18,Tryz.f18,44,[0,2,3,4,5,6,7,8,9],_⟩ (args:=[_]) Tryz.func18 rfl Tryz.ntmps18 (by simp) ?_
 by_cases h4:(4000:Int)<(s.size:Int)
 ·simp only[BE,↓Cl,simprocAttr,forall_const,AF,AN,AO,AE,AG,AP,Aa,AL,Af,Aq,Ai,Ar,BM,Az,A6,BD,BQ,h4]
  have:4000<s.size:=by omega
  refine⟨.slice none 0 0, ?_, ?_,.refl _⟩
  ·simp only[AV,this,if_true];rfl
  ·simp only[AV,this,if_true];exact Dn.nil ..
 have sk0: ∀h Q,Bj Tryz.prog 50 #[.string s,.int .i64 0] h Q=Q (.returned (.int .i64 ((Eg false s.toList:Nat):Int))) h:=fun h Q=>by
  have e:=BM s 0 (by omega) hs h Q
  simp only[List.drop_zero,Nat.zero_add]at e
  exact e
 simp only[BE,↓Cl,simprocAttr,forall_const,AF,AN,AO,AE,AG,AP,Aa,AL,Af,Aq,Ai,Ar,BM,Az,A6,BD,BQ,h4,rf,sk0]
 clear sk0
 have hM:P0 s (AV s) [] (s.size+1) (Eg false s.toList):=by
  have: ¬4000<s.size:=by omega
  refine⟨by omega, ?_⟩
  simp only[AV,this,if_false,Nat.zero_add,List.drop_zero,List.nil_append]
  split
  ·rfl
  ·rename_i h5
   have hz: ∀m i,(CW s m i).1≠0→(CW s m i).2.2=[]:=by
    intro m
    induction m with
    |zero=>intro i h;simp[CW]at h
    | succ m ih=>
     intro i
     simp only[CW]
     split
     ·intro h;simp at h
     ·split
      ·intro _;rfl
      ·intro h;simp only at h;simp only[h,if_false]
   rw[←hz _ _ h5]
 have hiz:Eg false s.toList≤s.size:=by have:=FN s 0 (by omega);simpa using this
 have own:Dn (h.push (.cells #[] 51)) h.size 51 4 (.slice (some ⟨h.size,0,none⟩) 0 0) ([]:List LR).length (Dg []):=
  Dn.of (Nat.le_refl _) (by simp;rfl) (by simp) (by simp[maxLen]) (by simp) (by simp[Dg]) (by simp[Dg])
 have g2:Grew h (h.push (.cells #[] 51)):=.push _ _
 have hlen:([]:List LR).length≤Eg false s.toList:=by simp
 generalize hm:s.size+1=m at hM
 clear hm
 generalize Value.slice (some ⟨h.size,0,none⟩) 0 0=v at own⊢
 generalize Eg false s.toList=i at*
 generalize hacc:([]:List LR)=acc at own hM hlen
 clear hacc
 generalize h.push (.cells #[] 51)=h2 at*
 induction m generalizing v i acc h2 with
 |zero=>have:=hM.1;omega
 | succ m ih=>
  refine Bh.intro ?_
  by_cases hlt:(i:Int)<(s.size:Int)
  ·simp only[BE,↓Cl,simprocAttr,forall_const,AF,AN,AO,AE,AG,AP,Aa,AL,Af,Aq,Ai,Ar,BM,Az,A6,BD,BQ,hlt]
   refine(MD s i (by omega) hs h2).mono ?_
   rintro _ h3 ⟨rfl,g3⟩
   by_cases he:(B0 s i).e=0
   ·simp only[BE,↓Cl,simprocAttr,forall_const,AF,AN,AO,AE,AG,AP,Aa,AL,Af,Aq,Ai,Ar,BM,Az,A6,BD,BQ,LR.val,he,rA]
    obtain⟨m',hm',hN⟩:=hM.next (by omega) he
    obtain rfl:m'=m:=by omega
    have hnx:=Ei s i (by omega) he
    have g5:=((g2.trans g3).pushed (.cells (LR.cells (B0 s i)).toArray 51))
    have own3:=((own.grew g3).grew (.push h3 (.cells (LR.cells (B0 s i)).toArray 51))).grew (.push _ (.cells (LR.cells (B0 s i)).toArray 51))
    refine Gy (news:=LR.cells (B0 s i)) (m:=1) O8 PA rfl (by decide) own3 rfl (K9 _ _ (by simp) _ _ _) (by simp[LR.cells,Value.oneCell']) (by simp[maxLen];omega) (by omega) (by have:=g5.le;simp at this ⊢;omega) ?_
    intro v' h4' o' gB _
    have g4:Grew h h4':=gB.grew (g5.pushed _) own3.row
    have hnx':=hnx.2
    simp only[BE,↓Cl,simprocAttr,forall_const,AF,AN,AO,AE,AG,AP,Aa,AL,Af,Aq,Ai,Ar,BM,Az,A6,BD,BQ,hnx',hs]
    refine Bh.weak (ih v' _ (FN s _ hnx') (acc++[B0 s i]) hN ?_ h4' g4 ?_) (by simp only[BW,Ab,Nat.reduceEqDiff,↓reduceIte,reduceCtorEq,Nat.reduceAdd,and_self,and_true])
    ·simp;omega
    ·have e1:(acc++[B0 s i]).length=acc.length+1:=by simp
     have e2:Dg (acc++[B0 s i])=Dg acc++(B0 s i).cells:=by simp[Dg]
     rw[e1,e2]
     exact o'
   ·simp only[BE,↓Cl,simprocAttr,forall_const,AF,AN,AO,AE,AG,AP,Aa,AL,Af,Aq,Ai,Ar,BM,Az,A6,BD,BQ,LR.val,he]
    have hR:=hM.err (by omega) he
    refine⟨.slice none 0 0, ?_, ?_, ?_⟩
    ·rw[hR]
    ·rw[hR];exact Dn.nil ..
    ·exact(g2.trans g3).pushed _
  ·simp only[BE,↓Cl,simprocAttr,forall_const,AF,AN,AO,AE,AG,AP,Aa,AL,Af,Aq,Ai,Ar,BM,Az,A6,BD,BQ,hlt,rA]
   have hR:=hM.last hiz (by omega)
   have own3:=own.grew (.push h2 (.cells (LR.cells (GD s)).toArray 51))
   refine Gy (news:=LR.cells (GD s)) (m:=1) O8 PA rfl (by decide) own3 rfl (K9 _ _ (by simp) _ _ _) (by simp[LR.cells,Value.oneCell']) (by simp[maxLen];omega) (by omega) (by have:=g2.le;simp;omega) ?_
   intro v' h4' o' gB _
   have g4:Grew h h4':=gB.grew (g2.pushed _) own3.row
   simp only[BE,↓Cl,simprocAttr,forall_const,AF,AN,AO,AE,AG,AP,Aa,AL,Af,Aq,Ai,Ar,BM,Az,A6,BD,BQ]
   refine⟨v', ?_, ?_,g4⟩
   ·rw[hR];rfl
   ·have e1:(acc++[GD s]).length=acc.length+1:=by simp
    have e2:Dg (acc++[GD s])=Dg acc++(GD s).cells:=by simp[Dg]
    rw[hR,e1,e2]
    exact o'
end Go.Proofs.YtfphceknmgadgaaGreatDoor
