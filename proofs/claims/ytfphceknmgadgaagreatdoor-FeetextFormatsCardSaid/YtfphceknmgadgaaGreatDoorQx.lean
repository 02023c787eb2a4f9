/-
The lexer as functions of bytes, and in memory.
Conditions: none.
-/
import Derived.Test.YtfphceknmgadgaaGreatDoorVmAE
import Derived.Test.YtfphceknmgadgaaGreatDoorTy
import Derived.Test.YtfphceknmgadgaaGreatDoorVmAppend
import Derived.Test.YtfphceknmgadgaaGreatDoorQy
import Derived.Lib.Bytealg
import Derived.Lib.IndexLaws
import Derived.Laws.RangeAny
set_option linter.unusedSimpArgs false
set_option linter.unusedVariables false
namespace Go.Proofs.YtfphceknmgadgaaGreatDoor
open Go.Vm
set_option maxHeartbeats 1000000
set_option maxRecDepth 20000
theorem Ku(s:ByteArray)(c:Int)(h:AX)(Q:Ending→AX→Prop)(hQ:Q (.returned (.int .i64 (Lib.indexByte s.data.toList c.toNat.toUInt8))) h):
  fe Tryz.prog 127 #[.string s,.int .u8 c] h Q:=by
 refine iX (e:=Extern.BytealgIndexByte.indexByte) Tryz.func127 (by kernel_rfl) (by kernel_rfl) (by kernel_rfl) (by kernel_rfl) (fun w=>Lib.run_indexByteString ..) hQ
theorem Jk(s:ByteArray)(c:Int)(h:AX):CallsH Tryz.prog 105 #[.string s,.int .u8 c] h fun r h'=>r=.returned (.int .i64 (Lib.indexByte s.data.toList c.toNat.toUInt8))∧h'=h:=by
 refine BU ⟨Tryz.prog,105,Tryz.f105,8,[0,1,4],_⟩ (args:=[_,_]) Tryz.func105 rfl Tryz.ntmps105 (by simp) ?_
 simp only[BM,↓C9,simprocAttr,forall_const]
 refine Ku s c h _ ?_
 simp only[BM,↓C9,simprocAttr,forall_const]
theorem AF(s:ByteArray)(c:Int)(h:AX)(Q:Ending→AX→Prop):Bz Tryz.prog 105 #[.string s,.int .u8 c] h Q=Q (.returned (.int .i64 (Lib.indexByte s.data.toList c.toNat.toUInt8))) (h):=Bz.exact (by kernel_rfl) (Jk s c h)
theorem BR(s:ByteArray)(c:Int)(A_:AH):Bi Tryz.prog 105 #[.string s,.int .u8 c] A_=some (.int .i64 (Lib.indexByte s.data.toList c.toNat.toUInt8)):=DW (by kernel_rfl) (by kernel_rfl) (fun h=>Jk s c h)
theorem MK(s:ByteArray)(c:Int)(h:AX):CallsH Tryz.prog 77 #[.string s,.int .u8 c] h fun r h'=>r=.returned (.int .i64 (Lib.indexByte s.data.toList c.toNat.toUInt8))∧h'=h:=by
 refine BU ⟨Tryz.prog,77,Tryz.f77,8,[0,1,4],_⟩ (args:=[_,_]) Tryz.func77 rfl Tryz.ntmps77 (by simp) ?_
 simp only[BM,↓C9,simprocAttr,forall_const,AF]
theorem AM(s:ByteArray)(c:Int)(h:AX)(Q:Ending→AX→Prop):Bz Tryz.prog 77 #[.string s,.int .u8 c] h Q=Q (.returned (.int .i64 (Lib.indexByte s.data.toList c.toNat.toUInt8))) (h):=Bz.exact (by kernel_rfl) (MK s c h)
theorem Be(s:ByteArray)(c:Int)(A_:AH):Bi Tryz.prog 77 #[.string s,.int .u8 c] A_=some (.int .i64 (Lib.indexByte s.data.toList c.toNat.toUInt8)):=DW (by kernel_rfl) (by kernel_rfl) (fun h=>MK s c h)
theorem L3(s:ByteArray)(c:Int)(h0:0≤c)(h1:c<128)(h:AX):CallsH Tryz.prog 128 #[.string s,.int .i32 c] h fun r h'=>r=.returned (.int .i64 (Lib.indexByte s.data.toList c.toNat.toUInt8))∧h'=h:=by
 refine BU ⟨Tryz.prog,128,Tryz.f128,187,[0,1,4,5,6,7,8,9,10,11,12,13,14,15,16,175,176],_⟩ (args:=[_,_]) Tryz.func128 rfl Tryz.ntmps128 (by simp) ?_
 have h3:IntKind.u8.wrap c=c:=Kg (by omega) (by omega)
 simp only[BM,↓C9,simprocAttr,forall_const,AF,AM,h0,h1,h3]
theorem AN(s:ByteArray)(c:Int)(h0:0≤c)(h1:c<128)(h:AX)(Q:Ending→AX→Prop):Bz Tryz.prog 128 #[.string s,.int .i32 c] h Q=Q (.returned (.int .i64 (Lib.indexByte s.data.toList c.toNat.toUInt8))) (h):=Bz.exact (by kernel_rfl) (L3 s c h0 h1 h)
theorem Bd(s:ByteArray)(c:Int)(h0:0≤c)(h1:c<128)(A_:AH):Bi Tryz.prog 128 #[.string s,.int .i32 c] A_=some (.int .i64 (Lib.indexByte s.data.toList c.toNat.toUInt8)):=DW (by kernel_rfl) (by kernel_rfl) (fun h=>L3 s c h0 h1 h)
theorem H8(s:ByteArray)(c:Int)(h0:0≤c)(h1:c<128)(h:AX):CallsH Tryz.prog 106 #[.string s,.int .i32 c] h fun r h'=>r=.returned (.bool (decide (0≤Lib.indexByte s.data.toList c.toNat.toUInt8)))∧h'=h:=by
 refine BU ⟨Tryz.prog,106,Tryz.f106,9,[0,1,4],_⟩ (args:=[_,_]) Tryz.func106 rfl Tryz.ntmps106 (by simp) ?_
 simp only[BM,↓C9,simprocAttr,forall_const,AF,AM,AN,h0,h1]
theorem AE(s:ByteArray)(c:Int)(h0:0≤c)(h1:c<128)(h:AX)(Q:Ending→AX→Prop):Bz Tryz.prog 106 #[.string s,.int .i32 c] h Q=Q (.returned (.bool (decide (0≤Lib.indexByte s.data.toList c.toNat.toUInt8)))) (h):=Bz.exact (by kernel_rfl) (H8 s c h0 h1 h)
theorem BF(s:ByteArray)(c:Int)(h0:0≤c)(h1:c<128)(A_:AH):Bi Tryz.prog 106 #[.string s,.int .i32 c] A_=some (.bool (decide (0≤Lib.indexByte s.data.toList c.toNat.toUInt8))):=DW (by kernel_rfl) (by kernel_rfl) (fun h=>H8 s c h0 h1 h)
theorem Fb: ∀(p l:List UInt8),p.isPrefixOf l=(l.take p.length==p)
 | [],l=>by simp
 |a::p,[]=>by simp[List.isPrefixOf]
 |a::p,b::l=>by
  simp only[List.isPrefixOf,List.length_cons,List.take_succ_cons,Fb p l]
  rw[Bool.eq_iff_iff]
  simp only[Bool.and_eq_true,beq_iff_eq,List.cons.injEq]
  exact⟨fun⟨x,y⟩=>⟨x.symm,y⟩,fun⟨x,y⟩=>⟨x.symm,y⟩⟩
theorem N7{s p:ByteArray}(h:p.size≤s.size):((s.extract 0 p.size).toList==p.toList)=p.toList.isPrefixOf s.toList:=by
 rw[Fb,ByteArray.toList_eq,ByteArray.toList_eq,ByteArray.toList_eq]
 have:(s.extract 0 p.size).data.toList=s.data.toList.take p.data.toList.length:=by
  rw[ByteArray.data_extract]
  simp
 rw[this]
theorem Tm{s p:ByteArray}(h:s.size<p.size):p.toList.isPrefixOf s.toList=false:=by
 rw[Fb,ByteArray.toList_eq,ByteArray.toList_eq]
 rw[beq_eq_false_iff_ne]
 intro e
 have:=congrArg List.length e
 simp at this
 omega
theorem Jj(s p:ByteArray)(h:AX):CallsH Tryz.prog 107 #[.string s,.string p] h fun r h'=>r=.returned (.bool (p.toList.isPrefixOf s.toList))∧h'=h:=by
 refine BU ⟨Tryz.prog,107,Tryz.f107,18,[0,1,4],_⟩ (args:=[_,_]) Tryz.func107 rfl Tryz.ntmps107 (by simp) ?_
 by_cases hle:((p.size:Int)≤(s.size:Int))
 ·simp only[BM,↓C9,simprocAttr,forall_const,AF,AM,AN,AE,hle]
  rw[N7 (by omega)]
 ·simp only[BM,↓C9,simprocAttr,forall_const,AF,AM,AN,AE,hle]
  rw[Tm (by omega)]
theorem AG(s p:ByteArray)(h:AX)(Q:Ending→AX→Prop):Bz Tryz.prog 107 #[.string s,.string p] h Q=Q (.returned (.bool (p.toList.isPrefixOf s.toList))) (h):=Bz.exact (by kernel_rfl) (Jj s p h)
theorem BQ(s p:ByteArray)(A_:AH):Bi Tryz.prog 107 #[.string s,.string p] A_=some (.bool (p.toList.isPrefixOf s.toList)):=DW (by kernel_rfl) (by kernel_rfl) (fun h=>Jj s p h)
theorem Mh(s p:ByteArray)(h:AX):CallsH Tryz.prog 80 #[.string s,.string p] h fun r h'=>r=.returned (.bool (p.toList.isPrefixOf s.toList))∧h'=h:=by
 refine BU ⟨Tryz.prog,80,Tryz.f80,8,[0,1,4],_⟩ (args:=[_,_]) Tryz.func80 rfl Tryz.ntmps80 (by simp) ?_
 simp only[BM,↓C9,simprocAttr,forall_const,AF,AM,AN,AE,AG]
theorem AO(s p:ByteArray)(h:AX)(Q:Ending→AX→Prop):Bz Tryz.prog 80 #[.string s,.string p] h Q=Q (.returned (.bool (p.toList.isPrefixOf s.toList))) (h):=Bz.exact (by kernel_rfl) (Mh s p h)
theorem Bf(s p:ByteArray)(A_:AH):Bi Tryz.prog 80 #[.string s,.string p] A_=some (.bool (p.toList.isPrefixOf s.toList)):=DW (by kernel_rfl) (by kernel_rfl) (fun h=>Mh s p h)
set_option maxHeartbeats 1000000
set_option maxRecDepth 20000
def DA(c:Nat):Bool:=decide (c=32)||decide (c=9)||decide (c=10)
def Ca(c:Nat):Bool:=(decide (97≤c)&&decide (c≤122))||(decide (65≤c)&&decide (c≤90))
def BJ(c:Nat):Bool:=decide (48≤c)&&decide (c≤57)
def CA(c:Nat):Bool:=Ca c||BJ c||decide (c=95)
def WZ:List UInt8:=[40,41,123,125,44,59,58,61,60,62,43,45,42,37,46]
def F0(c:Nat):Bool:=decide (c≤126)&&decide (0≤Lib.indexByte WZ c.toUInt8)
def GF(c:Nat):Int:=
 if DA c=true then 1 else if Ca c=true then 2 else if BJ c=true then 3 else if c=95 then 4 else if c=34 then 5 else if c=35 then 6 else if F0 c=true then 7 else 0
theorem QX(c:Nat)(hc:c<256)(h:AX):CallsH Tryz.prog 79 #[.int .i32 (c:Int)] h fun r h'=>r=.returned (.int .i64 (GF c))∧h'=h:=by
 refine BU ⟨Tryz.prog,79,Tryz.f79,52,[0,2],_⟩ (args:=[_]) Tryz.func79 rfl Tryz.ntmps79 (by simp) ?_
 have e1:(ByteArray.mk #[40,41,123,125,44,59,58,61,60,62,43,45,42,37,46]).data.toList=WZ:=rfl
 have e2:(0≤(c:Int))=True:=by simp
 have e4:c.toUInt8=Nat.toUInt8 c:=rfl
 by_cases hm:(c:Int)≤126
 ·have e3:((c:Int)<128)=True:=by simp;omega
  simp only[BM,↓C9,simprocAttr,forall_const,AF,AM,AN,AE,AG,AO,e1,e2,e3,hm,Int.toNat_natCast]
  simp only[Ending.returned.injEq,Value.int.injEq,true_and]
  clear e1 e2 e3 e4 h
  revert c
  decide+kernel
 ·simp only[BM,↓C9,simprocAttr,forall_const,AF,AM,AN,AE,AG,AO,e1,e2,hm]
  simp only[Ending.returned.injEq,Value.int.injEq,true_and]
  clear e1 e2 e4 h
  revert c
  decide+kernel
theorem Aa(c:Nat)(hc:c<256)(h:AX)(Q:Ending→AX→Prop):Bz Tryz.prog 79 #[.int .i32 (c:Int)] h Q=Q (.returned (.int .i64 (GF c))) (h):=Bz.exact (by kernel_rfl) (QX c hc h)
theorem CG(c:Nat)(hc:c<256)(A_:AH):Bi Tryz.prog 79 #[.int .i32 (c:Int)] A_=some (.int .i64 (GF c)):=DW (by kernel_rfl) (by kernel_rfl) (fun h=>QX c hc h)
set_option maxHeartbeats 1000000
set_option maxRecDepth 20000
theorem Ck{s:ByteArray}{pos:Nat}{c:UInt8}{l:List UInt8}(h:s.toList.drop pos=c::l): ∃hp:pos<s.size,s[pos]'hp=c∧s.toList.drop (pos+1)=l∧s.size=pos+1+l.length∧s.data[pos]? =some c:=by
 have hn:s.size=s.data.toList.length:=rfl
 rw[ByteArray.toList_eq]at h⊢
 have hlen:(s.data.toList.drop pos).length=l.length+1:=by rw[h];rfl
 have hl2:=hlen
 rw[List.length_drop,←hn]at hl2
 have hp:pos<s.size:=by omega
 have h1:=List.drop_eq_getElem_cons (l:=s.data.toList) (i:=pos) (by omega)
 rw[h]at h1
 simp only[List.cons.injEq]at h1
 refine⟨hp, ?_,h1.2.symm,by omega, ?_⟩
 ·rw[h1.1];rfl
 ·rw[h1.1];simp
theorem DC{s:ByteArray}{pos:Nat}(h:s.toList.drop pos=[]): ¬pos<s.size:=by
 have hn:s.size=s.data.toList.length:=rfl
 rw[ByteArray.toList_eq]at h
 have:=congrArg List.length h
 rw[List.length_drop,←hn]at this
 simp only[List.length_nil]at this
 omega
theorem Ah(s:ByteArray):s.toList.length=s.size:=by rw[ByteArray.toList_eq];rfl
def BW:List UInt8→Nat
 | []=>0
 |c::l=>if CA c.toNat=true then BW l+1 else 0
def Cs:Bool→List UInt8→Nat
 |_,[]=>0
 |r,c::l=>if(r||(DA c.toNat||decide (c.toNat=35)))=true then Cs ((r||decide (c.toNat=35))&& !decide (c.toNat=10)) l+1 else 0
theorem GO: ∀l:List UInt8,BW l≤l.length
 | []=>Nat.le_refl _
 |c::l=>by
  have:=GO l
  simp only[BW,List.length_cons]
  split<;>omega
theorem Fd: ∀(r:Bool) (l:List UInt8),Cs r l≤l.length
 |_,[]=>Nat.le_refl _
 |r,c::l=>by
  have:=Fd ((r||decide (c.toNat=35))&& !decide (c.toNat=10)) l
  simp only[Cs,List.length_cons]
  split<;>omega
theorem Dl(c:UInt8):c.toNat<256:=c.toNat_lt
theorem fl: ∀c,c<256→(GF c==2||GF c==3||GF c==4)=CA c:=by decide+kernel
theorem OY(c:Nat):(decide ((97:Int)≤(c:Int))&&decide ((c:Int)≤122)||decide ((65:Int)≤(c:Int))&&decide ((c:Int)≤90))=Ca c:=by
 rw[Bool.eq_iff_iff];simp[Ca];omega
theorem P5(c:Nat):(decide ((48:Int)≤(c:Int))&&decide ((c:Int)≤57))=BJ c:=by
 rw[Bool.eq_iff_iff];simp[BJ];omega
theorem KQ(c:UInt8)(h:AX):CallsH Tryz.prog 108 #[.int .u8 (c.toNat:Int)] h fun r h'=>r=.returned (.bool (CA c.toNat))∧h'=h:=by
 refine BU ⟨Tryz.prog,108,Tryz.f108,17,[0,2,3],_⟩ (args:=[_]) Tryz.func108 rfl Tryz.ntmps108 (by simp) ?_
 have hc:=Dl c
 have hw:IntKind.i32.wrap (c.toNat:Int)=c.toNat:=Vd (by omega) (by omega)
 simp only[BM,↓C9,simprocAttr,forall_const,AF,AM,AN,AE,AG,AO,Aa,hw,hc]
 rw[fl c.toNat hc]
theorem AL(c:UInt8)(h:AX)(Q:Ending→AX→Prop):Bz Tryz.prog 108 #[.int .u8 (c.toNat:Int)] h Q=Q (.returned (.bool (CA c.toNat))) (h):=Bz.exact (by kernel_rfl) (KQ c h)
theorem BX(c:UInt8)(A_:AH):Bi Tryz.prog 108 #[.int .u8 (c.toNat:Int)] A_=some (.bool (CA c.toNat)):=DW (by kernel_rfl) (by kernel_rfl) (fun h=>KQ c h)
theorem WW(c:UInt8)(h:AX):CallsH Tryz.prog 86 #[.int .u8 (c.toNat:Int)] h fun r h'=>r=.returned (.bool (Ca c.toNat))∧h'=h:=by
 refine BU ⟨Tryz.prog,86,Tryz.f86,17,[0,2],_⟩ (args:=[_]) Tryz.func86 rfl Tryz.ntmps86 (by simp) ?_
 simp only[BM,↓C9,simprocAttr,forall_const,AF,AM,AN,AE,AG,AO,Aa,AL]
 rw[OY]
theorem Al(c:UInt8)(h:AX)(Q:Ending→AX→Prop):Bz Tryz.prog 86 #[.int .u8 (c.toNat:Int)] h Q=Q (.returned (.bool (Ca c.toNat))) (h):=Bz.exact (by kernel_rfl) (WW c h)
theorem CX(c:UInt8)(A_:AH):Bi Tryz.prog 86 #[.int .u8 (c.toNat:Int)] A_=some (.bool (Ca c.toNat)):=DW (by kernel_rfl) (by kernel_rfl) (fun h=>WW c h)
theorem Y2(c:UInt8)(h:AX):CallsH Tryz.prog 88 #[.int .u8 (c.toNat:Int)] h fun r h'=>r=.returned (.bool (BJ c.toNat))∧h'=h:=by
 refine BU ⟨Tryz.prog,88,Tryz.f88,9,[0,2],_⟩ (args:=[_]) Tryz.func88 rfl Tryz.ntmps88 (by simp) ?_
 simp only[BM,↓C9,simprocAttr,forall_const,AF,AM,AN,AE,AG,AO,Aa,AL,Al]
 rw[P5]
theorem Ax(c:UInt8)(h:AX)(Q:Ending→AX→Prop):Bz Tryz.prog 88 #[.int .u8 (c.toNat:Int)] h Q=Q (.returned (.bool (BJ c.toNat))) (h):=Bz.exact (by kernel_rfl) (Y2 c h)
theorem Cn(c:UInt8)(A_:AH):Bi Tryz.prog 88 #[.int .u8 (c.toNat:Int)] A_=some (.bool (BJ c.toNat)):=DW (by kernel_rfl) (by kernel_rfl) (fun h=>Y2 c h)
theorem EH{s:ByteArray}{i:Nat}(h:i<s.size): ∃c l,s.toList.drop i=c::l:=by
 cases hl:s.toList.drop i with
 |nil=>exact absurd h (DC hl)
 |cons c l=>exact⟨c,l,rfl⟩
theorem TW(s:ByteArray)(i:Nat)(hi:i≤s.size)(hs:s.size≤100000)(h:AX):CallsH Tryz.prog 81 #[.string s,.int .i64 (i:Int)] h fun r h'=>r=.returned (.string (s.extract i (i+BW (s.toList.drop i))))∧h'=h:=by
 refine BU ⟨Tryz.prog,81,Tryz.f81,23,[0,1,4,5],_⟩ (args:=[_,_]) Tryz.func81 rfl Tryz.ntmps81 (by simp) ?_
 simp only[BM,↓C9,simprocAttr,forall_const,AF,AM,AN,AE,AG,AO,Aa,AL,Al,Ax]
 obtain⟨e,he,h1,h2,h3⟩: ∃e:Nat,e=i∧i≤e∧e≤s.size∧i+BW (s.toList.drop i)=e+BW (s.toList.drop e):=⟨i,rfl,by omega,hi,rfl⟩
 rw[show(5,some (Value.int .i64 (i:Int)))=(5,some (Value.int .i64 (e:Int))) by rw[he]]
 clear he
 generalize hl:s.toList.drop e=l at h3
 induction l generalizing e with
 |nil=>
  have hlt:((e:Int)<(s.size:Int))=False:=by have:=DC hl;simp;omega
  have hle:((i:Int)≤(e:Int))=True:=by simp;omega
  have hle2:((e:Int)≤(s.size:Int))=True:=by simp;omega
  refine Bx.intro ?_
  simp only[BM,↓C9,simprocAttr,forall_const,AF,AM,AN,AE,AG,AO,Aa,AL,Al,Ax,hlt,hle,hle2]
  rw[h3]
  rfl
 | cons c l ih=>
  obtain⟨hp,hc,hl',hsl,hb⟩:=Ck hl
  have hlt:((e:Int)<(s.size:Int))=True:=by simp;omega
  have hle:((i:Int)≤(e:Int))=True:=by simp;omega
  have hle2:((e:Int)≤(s.size:Int))=True:=by simp;omega
  have we:IntKind.i64.wrap ((e:Int)+1)=((e+1:Nat):Int):=by rw[Az (by omega) (by omega)];omega
  refine Bx.intro ?_
  simp only[BW]at h3
  cases hw:CA c.toNat with
  |true=>
   rw[if_pos hw]at h3
   simp only[BM,↓C9,simprocAttr,forall_const,AF,AM,AN,AE,AG,AO,Aa,AL,Al,Ax,hlt,hb,we,hw]
   exact Bx.weak (ih (e+1) (by omega) (by omega) hl' (by omega)) (by simp only[Bo,Ag,Nat.reduceEqDiff,↓reduceIte,reduceCtorEq,Nat.reduceAdd,and_self,and_true])
  |false=>
   rw[if_neg (by simp[hw])]at h3
   simp only[BM,↓C9,simprocAttr,forall_const,AF,AM,AN,AE,AG,AO,Aa,AL,Al,Ax,hlt,hb,we,hw,hle,hle2]
   rw[h3]
   rfl
theorem Ap(s:ByteArray)(i:Nat)(hi:i≤s.size)(hs:s.size≤100000)(h:AX)(Q:Ending→AX→Prop):Bz Tryz.prog 81 #[.string s,.int .i64 (i:Int)] h Q=Q (.returned (.string (s.extract i (i+BW (s.toList.drop i))))) (h):=Bz.exact (by kernel_rfl) (TW s i hi hs h)
theorem CZ(s:ByteArray)(i:Nat)(hi:i≤s.size)(hs:s.size≤100000)(A_:AH):Bi Tryz.prog 81 #[.string s,.int .i64 (i:Int)] A_=some (.string (s.extract i (i+BW (s.toList.drop i)))):=DW (by kernel_rfl) (by kernel_rfl) (fun h=>TW s i hi hs h)
theorem i95(c:Nat):((c:Int)==95)=decide (c=95):=by rw[Bool.eq_iff_iff];simp;omega
theorem Yl(s:ByteArray)(i:Nat)(hi:i≤s.size)(hs:s.size≤100000)(h:AX):CallsH Tryz.prog 87 #[.string s,.int .i64 (i:Int)] h fun r h'=>r=.returned (.int .i64 ((i+BW (s.toList.drop i):Nat):Int))∧h'=h:=by
 refine BU ⟨Tryz.prog,87,Tryz.f87,30,[0,1,4],_⟩ (args:=[_,_]) Tryz.func87 rfl Tryz.ntmps87 (by simp) ?_
 simp only[BM,↓C9,simprocAttr,forall_const,AF,AM,AN,AE,AG,AO,Aa,AL,Al,Ax,Ap]
 obtain⟨e,he,h1,h2,h3⟩: ∃e:Nat,e=i∧i≤e∧e≤s.size∧i+BW (s.toList.drop i)=e+BW (s.toList.drop e):=⟨i,rfl,by omega,hi,rfl⟩
 rw[show(1,some (Value.int .i64 (i:Int)))=(1,some (Value.int .i64 (e:Int))) by rw[he]]
 clear he
 generalize hl:s.toList.drop e=l at h3
 induction l generalizing e with
 |nil=>
  have hlt:((e:Int)<(s.size:Int))=False:=by have:=DC hl;simp;omega
  refine Bx.intro ?_
  simp only[BM,↓C9,simprocAttr,forall_const,AF,AM,AN,AE,AG,AO,Aa,AL,Al,Ax,Ap,hlt]
  rw[h3]
  rfl
 | cons c l ih=>
  obtain⟨hp,hc,hl',hsl,hb⟩:=Ck hl
  have hlt:((e:Int)<(s.size:Int))=True:=by simp;omega
  have we:IntKind.i64.wrap ((e:Int)+1)=((e+1:Nat):Int):=by rw[Az (by omega) (by omega)];omega
  have e95:=i95 c.toNat
  refine Bx.intro ?_
  simp only[BW]at h3
  cases hw:CA c.toNat with
  | true=>
   rw[if_pos hw]at h3
   have K:=ih (e+1) (by omega) (by omega) hl' (by omega)
   simp only[CA]at hw
   cases h5:Ca c.toNat<;>cases h6:BJ c.toNat<;>simp only[h5,h6,Bool.or_false,Bool.or_true,Bool.false_or,Bool.true_or,Bool.false_eq_true,Bool.true_eq_false]at hw
   all_goals
    simp only[BM,↓C9,simprocAttr,forall_const,AF,AM,AN,AE,AG,AO,Aa,AL,Al,Ax,Ap,hlt,hb,h5,h6,we,e95,hw]
    exact Bx.weak K (by simp only[Bo,Ag,Nat.reduceEqDiff,↓reduceIte,reduceCtorEq,Nat.reduceAdd,and_self,and_true])
  |false=>
   rw[if_neg (by simp[hw])]at h3
   simp only[CA,Bool.or_eq_false_iff]at hw
   simp only[BM,↓C9,simprocAttr,forall_const,AF,AM,AN,AE,AG,AO,Aa,AL,Al,Ax,Ap,hlt,hb,hw.1.1,hw.1.2,e95,hw.2]
   rw[h3]
   rfl
theorem Ay(s:ByteArray)(i:Nat)(hi:i≤s.size)(hs:s.size≤100000)(h:AX)(Q:Ending→AX→Prop):Bz Tryz.prog 87 #[.string s,.int .i64 (i:Int)] h Q=Q (.returned (.int .i64 ((i+BW (s.toList.drop i):Nat):Int))) (h):=Bz.exact (by kernel_rfl) (Yl s i hi hs h)
theorem Cp(s:ByteArray)(i:Nat)(hi:i≤s.size)(hs:s.size≤100000)(A_:AH):Bi Tryz.prog 87 #[.string s,.int .i64 (i:Int)] A_=some (.int .i64 ((i+BW (s.toList.drop i):Nat):Int)):=DW (by kernel_rfl) (by kernel_rfl) (fun h=>Yl s i hi hs h)
theorem Y1: ∀l:List UInt8,Cs true l=if Lib.indexByte l 10= -1 then l.length else(Lib.indexByte l 10).toNat+Cs false (l.drop (Lib.indexByte l 10).toNat)
 | []=>by simp[Cs,Lib.indexByte]
 | c::l=>by
  have ih:=Y1 l
  have hge:=Lib.indexByte_ge l 10
  by_cases hc:c=10
  ·subst hc
   simp[Cs,Lib.indexByte,DA]
  ·have h1:c.toNat≠10:=fun h=>hc (by apply UInt8.toNat.inj;exact h)
   simp only[Cs,Lib.indexByte,Bool.true_or,if_true,Bool.true_and,decide_eq_false h1,Bool.not_false,ih,beq_iff_eq,if_neg hc]
   by_cases h2:Lib.indexByte l 10= -1
   ·simp[h2]
   ·have h3:Lib.indexByte l 10+1≠ -1:=by omega
    have h4:(Lib.indexByte l 10+1).toNat=(Lib.indexByte l 10).toNat+1:=by omega
    simp only[h2,if_false,h3,h4,List.drop_succ_cons]
    omega
theorem kS{c:UInt8}(l:List UInt8)(hc:c.toNat=35):Cs false (c::l)=if Lib.indexByte (c::l) 10= -1 then(c::l).length else(Lib.indexByte (c::l) 10).toNat+Cs false ((c::l).drop (Lib.indexByte (c::l) 10).toNat):=by
 rw[←Y1]
 simp[Cs,hc]
theorem C0(s:ByteArray)(i:Nat):(s.extract i s.size).toList=s.toList.drop i:=by
 rw[ByteArray.toList_eq,ByteArray.toList_eq,ByteArray.data_extract]
 simp
 rw[List.take_of_length_le]
 simp
theorem Gz(s:ByteArray)(i:Nat):(s.extract i s.size).data.toList=s.toList.drop i:=by rw[←ByteArray.toList_eq,C0]
theorem b9: ∀c,c<256→(GF c=1∧DA c=true)∨(GF c=6∧c=35∧DA c=false)∨(GF c≠1∧GF c≠6∧DA c=false∧c≠35):=by decide+kernel
theorem Gx: ∀(l:List UInt8) (c:UInt8),Lib.indexByte l c<l.length∨l=[]
 | [],_=>.inr rfl
 | a::l,c=>by
  left
  simp only[Lib.indexByte]
  rcases Gx l c with h|h
  ·split
   ·simp
   ·split
    ·simp;omega
    ·simp;omega
  ·subst h;simp[Lib.indexByte];split<;>simp
theorem kb(s:ByteArray)(i:Nat)(hi:i≤s.size)(hs:s.size≤100000)(h:AX):CallsH Tryz.prog 50 #[.string s,.int .i64 (i:Int)] h fun r h'=>r=.returned (.int .i64 ((i+Cs false (s.toList.drop i):Nat):Int))∧h'=h:=by
 refine BU ⟨Tryz.prog,50,Tryz.f50,34,[0,1,4,5,14],_⟩ (args:=[_,_]) Tryz.func50 rfl Tryz.ntmps50 (by simp) ?_
 simp only[BM,↓C9,simprocAttr,forall_const,AF,AM,AN,AE,AG,AO,Aa,AL,Al,Ax,Ap,Ay]
 obtain⟨e,he,h1,h2,h3⟩: ∃e:Nat,e=i∧i≤e∧e≤s.size∧i+Cs false (s.toList.drop i)=e+Cs false (s.toList.drop e):=⟨i,rfl,by omega,hi,rfl⟩
 rw[show(1,some (Value.int .i64 (i:Int)))=(1,some (Value.int .i64 (e:Int))) by rw[he]]
 clear he
 obtain⟨m,hm⟩: ∃m,s.size - e≤m:=⟨_,Nat.le_refl _⟩
 induction m generalizing e with
 |zero=>
  have hlt:((e:Int)<(s.size:Int))=False:=by simp;omega
  refine Bx.intro ?_
  simp only[BM,↓C9,simprocAttr,forall_const,AF,AM,AN,AE,AG,AO,Aa,AL,Al,Ax,Ap,Ay,hlt]
  rw[h3,List.drop_of_length_le (by rw[Ah];omega)]
  rfl
 | succ m ih=>
  cases hl:s.toList.drop e with
  |nil=>
   have hlt:((e:Int)<(s.size:Int))=False:=by have:=DC hl;simp;omega
   refine Bx.intro ?_
   simp only[BM,↓C9,simprocAttr,forall_const,AF,AM,AN,AE,AG,AO,Aa,AL,Al,Ax,Ap,Ay,hlt]
   rw[h3,hl]
   rfl
  | cons c l=>
   obtain⟨hp,hc,hl',hsl,hb⟩:=Ck hl
   have hlt:((e:Int)<(s.size:Int))=True:=by simp;omega
   have hle2:((e:Int)≤(s.size:Int))=True:=by simp;omega
   have he0:(0≤(e:Int))=True:=by simp
   have we:IntKind.i64.wrap ((e:Int)+1)=((e+1:Nat):Int):=by rw[Az (by omega) (by omega)];omega
   have w32:IntKind.i32.wrap (c.toNat:Int)=c.toNat:=Vd (by have:=Dl c;omega) (by have:=Dl c;omega)
   have hcl:=Dl c
   refine Bx.intro ?_
   rw[hl]at h3
   rcases b9 c.toNat hcl with⟨k1,k2⟩|⟨k1,k2,k3⟩|⟨k1,k2,k3,k4⟩
   ·have k4:c.toNat≠35:=by intro h;rw[h]at k2;cases k2
    simp only[Cs,k2,Bool.false_or,Bool.true_or,if_true,decide_eq_false k4,Bool.false_and]at h3
    simp only[BM,↓C9,simprocAttr,forall_const,AF,AM,AN,AE,AG,AO,Aa,AL,Al,Ax,Ap,Ay,hlt,hb,w32,hcl,k1,we]
    exact Bx.weak (ih (e+1) (by omega) (by omega) (by rw[hl'];omega) (by omega)) (by simp only[Bo,Ag,Nat.reduceEqDiff,↓reduceIte,reduceCtorEq,Nat.reduceAdd,and_self,and_true])
   ·rw [kS l k2]at h3
    have hx:=Lib.indexByte_ge (c::l) 10
    rcases Gx (c::l) 10 with hy|hy
    rotate_left
    ·cases hy
    rw[←hl]at h3 hx hy
    simp only[BM,↓C9,simprocAttr,forall_const,AF,AM,AN,AE,AG,AO,Aa,AL,Al,Ax,Ap,Ay,hlt,hb,w32,hcl,k1,we,hle2,he0,Gz,show Nat.toUInt8 10=10 from rfl]
    by_cases hz:Lib.indexByte (s.toList.drop e) 10<0
    ·simp only[BM,↓C9,simprocAttr,forall_const,AF,AM,AN,AE,AG,AO,Aa,AL,Al,Ax,Ap,Ay,hz]
     rw[if_pos (by omega),List.length_drop,Ah]at h3
     have:e+(s.size - e)=s.size:=by omega
     rw[h3,this]
    ·simp only[BM,↓C9,simprocAttr,forall_const,AF,AM,AN,AE,AG,AO,Aa,AL,Al,Ax,Ap,Ay,hz]
     rw[if_neg (by omega),List.drop_drop]at h3
     have hy2:Lib.indexByte (s.toList.drop e) 10<s.size - e:=by rw[List.length_drop,Ah]at hy;omega
     obtain⟨q,hq⟩:=Int.eq_ofNat_of_zero_le (Int.not_lt.1 hz)
     rw[hq]at h3 hy2⊢
     have w2:IntKind.i64.wrap ((e:Int)+(q:Int))=((e+q:Nat):Int):=by rw[Az (by omega) (by omega)];omega
     simp only[BM,↓C9,simprocAttr,forall_const,AF,AM,AN,AE,AG,AO,Aa,AL,Al,Ax,Ap,Ay,w2]
     have hq0:0<q:=by
      rcases Nat.eq_zero_or_pos q with h0|h0
      ·subst h0
       have:=(Lib.indexByte_some hq).1
       rw[hl]at this
       simp at this
       rw[this]at k2
       cases k2
      ·exact h0
     simp only[Int.toNat_natCast]at h3
     exact Bx.weak (ih (e+q) (by omega) (by omega) (by omega) (by omega)) (by simp only[Bo,Ag,Nat.reduceEqDiff,↓reduceIte,reduceCtorEq,Nat.reduceAdd,and_self,and_true])
   ·simp only[BM,↓C9,simprocAttr,forall_const,AF,AM,AN,AE,AG,AO,Aa,AL,Al,Ax,Ap,Ay,hlt,hb,w32,hcl,k1,k2]
    simp only[Cs,k3,Bool.false_or,decide_eq_false k4,Bool.false_eq_true,if_false]at h3
    rw[h3]
    rfl
theorem BT(s:ByteArray)(i:Nat)(hi:i≤s.size)(hs:s.size≤100000)(h:AX)(Q:Ending→AX→Prop):Bz Tryz.prog 50 #[.string s,.int .i64 (i:Int)] h Q=Q (.returned (.int .i64 ((i+Cs false (s.toList.drop i):Nat):Int))) (h):=Bz.exact (by kernel_rfl) (kb s i hi hs h)
theorem DB(s:ByteArray)(i:Nat)(hi:i≤s.size)(hs:s.size≤100000)(A_:AH):Bi Tryz.prog 50 #[.string s,.int .i64 (i:Int)] A_=some (.int .i64 ((i+Cs false (s.toList.drop i):Nat):Int)):=DW (by kernel_rfl) (by kernel_rfl) (fun h=>kb s i hi hs h)
theorem Pb(c k:Nat):((c:Int)==(k:Int))=decide (c=k):=by rw[Bool.eq_iff_iff];simp only[beq_iff_eq,decide_eq_true_eq];omega
theorem X7(s:ByteArray)(i:Nat)(hi:i≤s.size)(hs:s.size≤100000)(h:AX):CallsH Tryz.prog 63 #[.string s,.int .i64 (i:Int)] h fun r h'=>r=.returned (.int .i64 ((i+Cs false (s.toList.drop i):Nat):Int))∧h'=h:=by
 refine BU ⟨Tryz.prog,63,Tryz.f63,53,[0,1,4,5],_⟩ (args:=[_,_]) Tryz.func63 rfl Tryz.ntmps63 (by simp) ?_
 simp only[BM,↓C9,simprocAttr,forall_const,AF,AM,AN,AE,AG,AO,Aa,AL,Al,Ax,Ap,Ay,BT]
 obtain⟨e,r,he,hr,h1,h2,h3⟩: ∃(e:Nat) (r:Bool),e=i∧r=false∧i≤e∧e≤s.size∧i+Cs false (s.toList.drop i)=e+Cs r (s.toList.drop e):=⟨i,false,rfl,rfl,by omega,hi,rfl⟩
 rw[show(1,some (Value.int .i64 (i:Int)))=(1,some (Value.int .i64 (e:Int))) by rw[he],show(5,some (Value.bool false))=(5,some (Value.bool r)) by rw[hr]]
 clear he hr
 generalize hl:s.toList.drop e=l at h3
 induction l generalizing e r with
 |nil=>
  have hlt:((e:Int)<(s.size:Int))=False:=by have:=DC hl;simp;omega
  refine Bx.intro ?_
  simp only[BM,↓C9,simprocAttr,forall_const,AF,AM,AN,AE,AG,AO,Aa,AL,Al,Ax,Ap,Ay,BT,hlt]
  rw[h3]
  rfl
 | cons c l ih=>
  obtain⟨hp,hc,hl',hsl,hb⟩:=Ck hl
  have hlt:((e:Int)<(s.size:Int))=True:=by simp;omega
  have we:IntKind.i64.wrap ((e:Int)+1)=((e+1:Nat):Int):=by rw[Az (by omega) (by omega)];omega
  have c32:=Pb c.toNat 32
  have c9:=Pb c.toNat 9
  have c10:=Pb c.toNat 10
  have c35:=Pb c.toNat 35
  simp only[Int.cast_ofNat_Int]at c32 c9 c10 c35
  have c10':((c.toNat:Int) !=10)= !decide (c.toNat=10):=by rw[bne,c10]
  refine Bx.intro ?_
  simp only[Cs]at h3
  cases hw:(r||(DA c.toNat||decide (c.toNat=35)))with
  | true=>
   rw[if_pos hw]at h3
   have K:=ih (e+1) ((r||decide (c.toNat=35))&& !decide (c.toNat=10)) (by omega) (by omega) hl' (by omega)
   simp only[DA]at hw
   cases r<;>cases h5:decide (c.toNat=32)<;>cases h6:decide (c.toNat=9)<;>cases h7:decide (c.toNat=10)<;>cases h8:decide (c.toNat=35)<;>
    simp only[h5,h6,h7,h8,Bool.or_false,Bool.or_true,Bool.false_or,Bool.true_or,Bool.false_eq_true,Bool.true_eq_false,Bool.false_and,Bool.true_and,Bool.not_true,Bool.not_false]at hw K<;>
    first|(simp at h5 h6;omega)|(simp at h5 h7;omega)|(simp at h5 h8;omega)|(simp at h6 h7;omega)|(simp at h6 h8;omega)|(simp at h7 h8;omega)|skip
   all_goals
    simp only[BM,↓C9,simprocAttr,forall_const,AF,AM,AN,AE,AG,AO,Aa,AL,Al,Ax,Ap,Ay,BT,hlt,hb,h5,h6,h7,h8,we,c32,c9,c10,c10',c35,hw]
    exact Bx.weak K (by simp only[Bo,Ag,Nat.reduceEqDiff,↓reduceIte,reduceCtorEq,Nat.reduceAdd,and_self,and_true])
  |false=>
   rw[if_neg (by simp[hw])]at h3
   simp only[DA,Bool.or_eq_false_iff]at hw
   obtain⟨rfl,⟨⟨h5,h6⟩,h7⟩,h8⟩:=hw
   simp only[BM,↓C9,simprocAttr,forall_const,AF,AM,AN,AE,AG,AO,Aa,AL,Al,Ax,Ap,Ay,BT,hlt,hb,h5,h6,h7,h8,we,c32,c9,c10,c35]
   rw[h3]
   rfl
theorem BC(s:ByteArray)(i:Nat)(hi:i≤s.size)(hs:s.size≤100000)(h:AX)(Q:Ending→AX→Prop):Bz Tryz.prog 63 #[.string s,.int .i64 (i:Int)] h Q=Q (.returned (.int .i64 ((i+Cs false (s.toList.drop i):Nat):Int))) (h):=Bz.exact (by kernel_rfl) (X7 s i hi hs h)
theorem Cq(s:ByteArray)(i:Nat)(hi:i≤s.size)(hs:s.size≤100000)(A_:AH):Bi Tryz.prog 63 #[.string s,.int .i64 (i:Int)] A_=some (.int .i64 ((i+Cs false (s.toList.drop i):Nat):Int)):=DW (by kernel_rfl) (by kernel_rfl) (fun h=>X7 s i hi hs h)
set_option maxHeartbeats 1000000
set_option maxRecDepth 20000
def Cd:List UInt8→Nat→Nat
 | [],a=>a
 |c::l,a=>Cd l (10*a+(c.toNat - 48))
theorem Sg(l:List UInt8)(a:Nat):a≤Cd l a:=by
 induction l generalizing a with
 |nil=>rw[Cd];omega
 |cons c l ih=>
  have:=ih (10*a+(c.toNat - 48))
  rw[Cd]
  omega
def ED(w:List UInt8):Bool:=w.all fun c=>BJ c.toNat
def H4(w:List UInt8):Bool:=decide (1<w.length)&&decide (w.head? =some 48)
def EO(w:List UInt8):Int×Int:=
 if ED w=false then(0,2)else if H4 w=true then(0,2)else if 9007199254740992<Cd w 0 then(0,4)else((Cd w 0:Nat),0)
theorem Ct{c:Nat}(h:BJ c=true):48≤c∧c≤57:=by simpa[BJ]using h
theorem cp: ∀c,c<256→(GF c=3∧BJ c=true)∨(GF c≠3∧BJ c=false):=by decide+kernel
theorem WG{w:List UInt8}(h:ED w=true){i:Nat}{c:UInt8}{l:List UInt8}(hd:w.drop i=c::l):BJ c.toNat=true:=by
 simp only[ED,List.all_eq_true]at h
 exact h c (List.mem_of_mem_drop (by rw[hd];exact List.mem_cons_self ..))
theorem DX(c:UInt8)(l:List UInt8):ED (c::l)=(BJ c.toNat&&ED l):=rfl
theorem VQ(s:ByteArray)(h0:0<s.size)(hs:s.size≤100000)(h:AX):CallsH Tryz.prog 82 #[.string s] h fun r h'=>r=.returned (.tuple #[.int .i64 (EO s.toList).1,.int .i64 (EO s.toList).2])∧h'=h:=by
 refine BU ⟨Tryz.prog,82,Tryz.f82,44,[0,2,3,4,5,6,8,9,28,29],_⟩ (args:=[_]) Tryz.func82 rfl Tryz.ntmps82 (by simp) ?_
 simp only[BM,↓C9,simprocAttr,forall_const,AF,AM,AN,AE,AG,AO,Aa,AL,Al,Ax,Ap,Ay,BT,BC]
 obtain⟨e,he,h1,h3⟩: ∃(e:Nat),e=0∧e≤s.size∧ED s.toList=ED (s.toList.drop e):=⟨0,rfl,by omega,rfl⟩
 rw[show(9,some (Value.int .i64 0))=(9,some (Value.int .i64 (e:Int))) by rw[he];rfl]
 clear he
 generalize hl:s.toList.drop e=l at h3
 induction l generalizing e with
 | nil=>
  have hlt:((e:Int)<(s.size:Int))=False:=by have:=DC hl;simp;omega
  have hA:ED s.toList=true:=by rw[h3];rfl
  obtain⟨c0,l0,hl0⟩:=EH h0
  obtain⟨_,_,_,hsl0,hb0⟩:=Ck hl0
  have c48:((c0.toNat:Int)==48)=decide (c0.toNat=48):=Pb c0.toNat 48
  have hlead:H4 s.toList=(decide (1<(s.size:Int))&&decide (c0.toNat=48)):=by
   simp only[List.drop_zero]at hl0
   have e1:(c0::l0).length=s.size:=by rw[←hl0];exact Ah s
   rw[Bool.eq_iff_iff]
   simp only[H4,hl0,e1,List.head?_cons,Option.some.injEq,Bool.and_eq_true,decide_eq_true_eq]
   constructor
   ·rintro⟨h1,h2⟩;rw[h2];exact⟨by omega,rfl⟩
   ·rintro⟨h1,h2⟩;exact⟨by omega,UInt8.toNat.inj h2⟩
  refine Bx.intro ?_
  cases hL:H4 s.toList with
  |true=>
   rw[hL]at hlead
   have:=hlead.symm
   simp only[Bool.and_eq_true,decide_eq_true_eq]at this
   simp only[BM,↓C9,simprocAttr,forall_const,AF,AM,AN,AE,AG,AO,Aa,AL,Al,Ax,Ap,Ay,BT,BC,hlt,hb0,c48,this.1,this.2]
   simp only[EO,hA,hL,if_true,Bool.true_eq_false,if_false]
  | false=>
   rw[hL]at hlead
   have h48:(1<(s.size:Int))→ ¬c0.toNat=48:=by intro h1s h;simp[h1s,h]at hlead
   by_cases h1s:(1<(s.size:Int))
   ·have:=h48 h1s
    simp only[BM,↓C9,simprocAttr,forall_const,AF,AM,AN,AE,AG,AO,Aa,AL,Al,Ax,Ap,Ay,BT,BC,hlt,hb0,c48,h1s,this]
    obtain⟨k,n,hk,hn,k1,k3,k4⟩: ∃(k n:Nat),k=0∧n=0∧k≤s.size∧Cd s.toList 0=Cd (s.toList.drop k) n∧n≤9007199254740992:=⟨0,0,rfl,rfl,by omega,rfl,by omega⟩
    rw[show(5,some (Value.int .i64 0))=(5,some (Value.int .i64 (n:Int))) by rw[hn];rfl,show(29,some (Value.int .i64 0))=(29,some (Value.int .i64 (k:Int))) by rw[hk];rfl]
    clear hk hn hl h1 hlt
    generalize hl:s.toList.drop k=l at k3
    induction l generalizing k n with
    |nil=>
     have hlt:((k:Int)<(s.size:Int))=False:=by have:=DC hl;simp;omega
     refine Bx.intro ?_
     simp only[BM,↓C9,simprocAttr,forall_const,AF,AM,AN,AE,AG,AO,Aa,AL,Al,Ax,Ap,Ay,BT,BC,hlt]
     rw[Cd]at k3
     have k5: ¬(9007199254740992<n):=by omega
     simp only[EO,hA,hL,if_true,Bool.true_eq_false,Bool.false_eq_true,if_false,k3,k5]
    | cons c l ih=>
     obtain⟨hp,hc,hl',hsl,hb⟩:=Ck hl
     have hlt:((k:Int)<(s.size:Int))=True:=by simp;omega
     have we:IntKind.i64.wrap ((k:Int)+1)=((k+1:Nat):Int):=by rw[Az (by omega) (by omega)];omega
     have hd:=Ct (WG hA hl)
     have w1:IntKind.u8.wrap ((c.toNat:Int) - 48)=((c.toNat - 48:Nat):Int):=by rw[Kg (by omega) (by omega)];omega
     have w2:IntKind.i64.wrap ((c.toNat - 48:Nat):Int)=((c.toNat - 48:Nat):Int):=Az (by omega) (by omega)
     have w3:IntKind.i64.wrap (10*(n:Int))=((10*n:Nat):Int):=by rw[Az (by omega) (by omega)];omega
     have w4:IntKind.i64.wrap (((10*n:Nat):Int)+((c.toNat - 48:Nat):Int))=((10*n+(c.toNat - 48):Nat):Int):=by rw[Az (by omega) (by omega)];omega
     rw[Cd]at k3
     refine Bx.intro ?_
     by_cases hbig:(9007199254740992:Int)<((10*n+(c.toNat - 48):Nat):Int)
     ·simp only[BM,↓C9,simprocAttr,forall_const,AF,AM,AN,AE,AG,AO,Aa,AL,Al,Ax,Ap,Ay,BT,BC,hlt,hb,w1,w2,w3,w4,hbig]
      have k5:9007199254740992<Cd s.toList 0:=by have:=Sg l (10*n+(c.toNat - 48));omega
      simp only[EO,hA,hL,if_true,Bool.true_eq_false,Bool.false_eq_true,if_false,k5]
     ·simp only[BM,↓C9,simprocAttr,forall_const,AF,AM,AN,AE,AG,AO,Aa,AL,Al,Ax,Ap,Ay,BT,BC,hlt,hb,w1,w2,w3,w4,we,hbig]
      exact Bx.weak (ih (k+1) (10*n+(c.toNat - 48)) (by omega) (by omega) hl' k3) (by simp only[Bo,Ag,Nat.reduceEqDiff,↓reduceIte,reduceCtorEq,Nat.reduceAdd,and_self,and_true])
   ·simp only[BM,↓C9,simprocAttr,forall_const,AF,AM,AN,AE,AG,AO,Aa,AL,Al,Ax,Ap,Ay,BT,BC,hlt,h1s]
    obtain⟨k,n,hk,hn,k1,k3,k4⟩: ∃(k n:Nat),k=0∧n=0∧k≤s.size∧Cd s.toList 0=Cd (s.toList.drop k) n∧n≤9007199254740992:=⟨0,0,rfl,rfl,by omega,rfl,by omega⟩
    rw[show(5,some (Value.int .i64 0))=(5,some (Value.int .i64 (n:Int))) by rw[hn];rfl,show(29,some (Value.int .i64 0))=(29,some (Value.int .i64 (k:Int))) by rw[hk];rfl]
    clear hk hn hl h1 hlt
    generalize hl:s.toList.drop k=l at k3
    induction l generalizing k n with
    |nil=>
     have hlt:((k:Int)<(s.size:Int))=False:=by have:=DC hl;simp;omega
     refine Bx.intro ?_
     simp only[BM,↓C9,simprocAttr,forall_const,AF,AM,AN,AE,AG,AO,Aa,AL,Al,Ax,Ap,Ay,BT,BC,hlt]
     rw[Cd]at k3
     have k5: ¬(9007199254740992<n):=by omega
     simp only[EO,hA,hL,if_true,Bool.true_eq_false,Bool.false_eq_true,if_false,k3,k5]
    | cons c l ih=>
     obtain⟨hp,hc,hl',hsl,hb⟩:=Ck hl
     have hlt:((k:Int)<(s.size:Int))=True:=by simp;omega
     have we:IntKind.i64.wrap ((k:Int)+1)=((k+1:Nat):Int):=by rw[Az (by omega) (by omega)];omega
     have hd:=Ct (WG hA hl)
     have w1:IntKind.u8.wrap ((c.toNat:Int) - 48)=((c.toNat - 48:Nat):Int):=by rw[Kg (by omega) (by omega)];omega
     have w2:IntKind.i64.wrap ((c.toNat - 48:Nat):Int)=((c.toNat - 48:Nat):Int):=Az (by omega) (by omega)
     have w3:IntKind.i64.wrap (10*(n:Int))=((10*n:Nat):Int):=by rw[Az (by omega) (by omega)];omega
     have w4:IntKind.i64.wrap (((10*n:Nat):Int)+((c.toNat - 48:Nat):Int))=((10*n+(c.toNat - 48):Nat):Int):=by rw[Az (by omega) (by omega)];omega
     rw[Cd]at k3
     refine Bx.intro ?_
     by_cases hbig:(9007199254740992:Int)<((10*n+(c.toNat - 48):Nat):Int)
     ·simp only[BM,↓C9,simprocAttr,forall_const,AF,AM,AN,AE,AG,AO,Aa,AL,Al,Ax,Ap,Ay,BT,BC,hlt,hb,w1,w2,w3,w4,hbig]
      have k5:9007199254740992<Cd s.toList 0:=by have:=Sg l (10*n+(c.toNat - 48));omega
      simp only[EO,hA,hL,if_true,Bool.true_eq_false,Bool.false_eq_true,if_false,k5]
     ·simp only[BM,↓C9,simprocAttr,forall_const,AF,AM,AN,AE,AG,AO,Aa,AL,Al,Ax,Ap,Ay,BT,BC,hlt,hb,w1,w2,w3,w4,we,hbig]
      exact Bx.weak (ih (k+1) (10*n+(c.toNat - 48)) (by omega) (by omega) hl' k3) (by simp only[Bo,Ag,Nat.reduceEqDiff,↓reduceIte,reduceCtorEq,Nat.reduceAdd,and_self,and_true])
 | cons c l ih=>
  obtain⟨hp,hc,hl',hsl,hb⟩:=Ck hl
  have hlt:((e:Int)<(s.size:Int))=True:=by simp;omega
  have we:IntKind.i64.wrap ((e:Int)+1)=((e+1:Nat):Int):=by rw[Az (by omega) (by omega)];omega
  have hcl:=Dl c
  have w32:IntKind.i32.wrap (c.toNat:Int)=c.toNat:=Vd (by omega) (by omega)
  rw[DX]at h3
  refine Bx.intro ?_
  rcases cp c.toNat hcl with⟨k1,k2⟩|⟨k1,k2⟩
  ·rw[k2,Bool.true_and]at h3
   simp only[BM,↓C9,simprocAttr,forall_const,AF,AM,AN,AE,AG,AO,Aa,AL,Al,Ax,Ap,Ay,BT,BC,hlt,hb,w32,hcl,k1,we]
   exact Bx.weak (ih (e+1) (by omega) hl' h3) (by simp only[Bo,Ag,Nat.reduceEqDiff,↓reduceIte,reduceCtorEq,Nat.reduceAdd,and_self,and_true])
  ·rw[k2,Bool.false_and]at h3
   simp only[BM,↓C9,simprocAttr,forall_const,AF,AM,AN,AE,AG,AO,Aa,AL,Al,Ax,Ap,Ay,BT,BC,hlt,hb,w32,hcl,k1,we]
   simp only[EO,h3,if_true]
theorem BG(s:ByteArray)(h0:0<s.size)(hs:s.size≤100000)(h:AX)(Q:Ending→AX→Prop):Bz Tryz.prog 82 #[.string s] h Q=Q (.returned (.tuple #[.int .i64 (EO s.toList).1,.int .i64 (EO s.toList).2])) (h):=Bz.exact (by kernel_rfl) (VQ s h0 hs h)
theorem CW(s:ByteArray)(h0:0<s.size)(hs:s.size≤100000)(A_:AH):Bi Tryz.prog 82 #[.string s] A_=some (.tuple #[.int .i64 (EO s.toList).1,.int .i64 (EO s.toList).2]):=DW (by kernel_rfl) (by kernel_rfl) (fun h=>VQ s h0 hs h)
theorem RL(s:ByteArray)(h0:0<s.size)(hs:s.size≤100000)(h:AX):CallsH Tryz.prog 89 #[.string s] h fun r h'=>r=.returned (.tuple #[.int .i64 (EO s.toList).1,.int .i64 (EO s.toList).2])∧h'=h:=by
 refine BU ⟨Tryz.prog,89,Tryz.f89,45,[0,2,3,4,5,6],_⟩ (args:=[_]) Tryz.func89 rfl Tryz.ntmps89 (by simp) ?_
 obtain⟨c0,l0,hl0⟩:=EH h0
 obtain⟨_,_,_,hsl0,hb0⟩:=Ck hl0
 have c48:((c0.toNat:Int)==48)=decide (c0.toNat=48):=Pb c0.toNat 48
 have hlead:H4 s.toList=(decide (1<(s.size:Int))&&decide (c0.toNat=48)):=by
  simp only[List.drop_zero]at hl0
  have e1:(c0::l0).length=s.size:=by rw[←hl0];exact Ah s
  rw[Bool.eq_iff_iff]
  simp only[H4,hl0,e1,List.head?_cons,Option.some.injEq,Bool.and_eq_true,decide_eq_true_eq]
  constructor
  ·rintro⟨h1,h2⟩;rw[h2];exact⟨by omega,rfl⟩
  ·rintro⟨h1,h2⟩;exact⟨by omega,UInt8.toNat.inj h2⟩
 simp only[BM,↓C9,simprocAttr,forall_const,AF,AM,AN,AE,AG,AO,Aa,AL,Al,Ax,Ap,Ay,BT,BC,BG]
 obtain⟨k,n,L,hk,hn,hL,k1,k2,k3⟩: ∃(k n:Nat) (L:Bool),k=0∧n=0∧L=false∧k≤s.size∧ED s.toList=ED (s.toList.drop k)∧((L=false∧Cd s.toList 0=Cd (s.toList.drop k) n∧n≤9007199254740992)∨(L=true∧9007199254740992<Cd s.toList 0)):=⟨0,0,false,rfl,rfl,rfl,by omega,rfl,.inl ⟨rfl,rfl,by omega⟩⟩
 obtain k5:k=0∨H4 s.toList=false:=.inl hk
 rw[show(4,some (Value.int .i64 0))=(4,some (Value.int .i64 (n:Int))) by rw[hn];rfl,show(6,some (Value.int .i64 0))=(6,some (Value.int .i64 (k:Int))) by rw[hk];rfl,show(5,some (Value.bool false))=(5,some (Value.bool L)) by rw[hL]]
 clear hk hn hL
 generalize hl:s.toList.drop k=l at k2 k3
 induction l generalizing k n L with
 | nil=>
  have hlt:((k:Int)<(s.size:Int))=False:=by have:=DC hl;simp;omega
  have hA:ED s.toList=true:=by rw[k2];rfl
  have hL:H4 s.toList=false:=by
   rcases k5 with h1|h1
   ·have:=DC hl;omega
   ·exact h1
  refine Bx.intro ?_
  rcases k3 with⟨rfl,k3,k4⟩|⟨rfl,k3⟩
  ·simp only[BM,↓C9,simprocAttr,forall_const,AF,AM,AN,AE,AG,AO,Aa,AL,Al,Ax,Ap,Ay,BT,BC,BG,hlt]
   rw[Cd]at k3
   have k5: ¬(9007199254740992<n):=by omega
   simp only[EO,hA,hL,if_true,Bool.true_eq_false,Bool.false_eq_true,if_false,k3,k5]
  ·simp only[BM,↓C9,simprocAttr,forall_const,AF,AM,AN,AE,AG,AO,Aa,AL,Al,Ax,Ap,Ay,BT,BC,BG,hlt]
   simp only[EO,hA,hL,if_true,Bool.true_eq_false,Bool.false_eq_true,if_false,k3]
 | cons c l ih=>
  obtain⟨hp,hc,hl',hsl,hb⟩:=Ck hl
  have hlt:((k:Int)<(s.size:Int))=True:=by simp;omega
  have we:IntKind.i64.wrap ((k:Int)+1)=((k+1:Nat):Int):=by rw[Az (by omega) (by omega)];omega
  rw[DX]at k2
  refine Bx.intro ?_
  cases hd:BJ c.toNat with
  |false=>
   rw[hd,Bool.false_and]at k2
   simp only[BM,↓C9,simprocAttr,forall_const,AF,AM,AN,AE,AG,AO,Aa,AL,Al,Ax,Ap,Ay,BT,BC,BG,hlt,hb,hd]
   simp only[EO,k2,if_true]
  | true=>
   rw[hd,Bool.true_and]at k2
   have hdb:=Ct hd
   cases hL:H4 s.toList with
   |true=>
    have h1:=hlead.symm
    simp only[hL,Bool.and_eq_true,decide_eq_true_eq]at h1
    simp only[BM,↓C9,simprocAttr,forall_const,AF,AM,AN,AE,AG,AO,Aa,AL,Al,Ax,Ap,Ay,BT,BC,BG,hlt,hb,hd,hb0,h1.1,h1.2,c48]
    simp only[EO,hL,if_true]
    split<;>rfl
   | false=>
    have w1:IntKind.u8.wrap ((c.toNat:Int) - 48)=((c.toNat - 48:Nat):Int):=by rw[Kg (by omega) (by omega)];omega
    have w2:IntKind.i64.wrap ((c.toNat - 48:Nat):Int)=((c.toNat - 48:Nat):Int):=Az (by omega) (by omega)
    have K: ∀(n':Nat) (L':Bool),_:=fun n' L'=>ih (k+1) n' L' (by omega) (.inr hL) hl' k2
    have hno:(1<(s.size:Int))→ ¬c0.toNat=48:=by
     intro h1 h2
     rw[hL]at hlead
     simp[h1,h2]at hlead
    have go: ∀b,b=decide (1<(s.size:Int))→(b=true→ ¬c0.toNat=48):=fun b hb h1=>hno (by rw[h1]at hb;simpa using hb.symm)
    rcases k3 with⟨rfl,k3,k4⟩|⟨rfl,k3⟩
    ·have w3:IntKind.i64.wrap (10*(n:Int))=((10*n:Nat):Int):=by rw[Az (by omega) (by omega)];omega
     have w4:IntKind.i64.wrap (((10*n:Nat):Int)+((c.toNat - 48:Nat):Int))=((10*n+(c.toNat - 48):Nat):Int):=by rw[Az (by omega) (by omega)];omega
     rw[Cd]at k3
     have hge:=Sg l (10*n+(c.toNat - 48))
     by_cases hbig:(9007199254740992:Int)<((10*n+(c.toNat - 48):Nat):Int)
     ·have K':=K (10*n+(c.toNat - 48)) true (.inr ⟨rfl,by omega⟩)
      by_cases h1:1<(s.size:Int)
      ·have h2:=hno h1
       simp only[BM,↓C9,simprocAttr,forall_const,AF,AM,AN,AE,AG,AO,Aa,AL,Al,Ax,Ap,Ay,BT,BC,BG,hlt,hb,hd,hb0,h1,h2,c48,w1,w2,w3,w4,we,hbig]
       exact Bx.weak K' (by simp only[Bo,Ag,Nat.reduceEqDiff,↓reduceIte,reduceCtorEq,Nat.reduceAdd,and_self,and_true])
      ·simp only[BM,↓C9,simprocAttr,forall_const,AF,AM,AN,AE,AG,AO,Aa,AL,Al,Ax,Ap,Ay,BT,BC,BG,hlt,hb,hd,hb0,h1,c48,w1,w2,w3,w4,we,hbig]
       exact Bx.weak K' (by simp only[Bo,Ag,Nat.reduceEqDiff,↓reduceIte,reduceCtorEq,Nat.reduceAdd,and_self,and_true])
     ·have K':=K (10*n+(c.toNat - 48)) false (.inl ⟨rfl,k3,by omega⟩)
      by_cases h1:1<(s.size:Int)
      ·have h2:=hno h1
       simp only[BM,↓C9,simprocAttr,forall_const,AF,AM,AN,AE,AG,AO,Aa,AL,Al,Ax,Ap,Ay,BT,BC,BG,hlt,hb,hd,hb0,h1,h2,c48,w1,w2,w3,w4,we,hbig]
       exact Bx.weak K' (by simp only[Bo,Ag,Nat.reduceEqDiff,↓reduceIte,reduceCtorEq,Nat.reduceAdd,and_self,and_true])
      ·simp only[BM,↓C9,simprocAttr,forall_const,AF,AM,AN,AE,AG,AO,Aa,AL,Al,Ax,Ap,Ay,BT,BC,BG,hlt,hb,hd,hb0,h1,c48,w1,w2,w3,w4,we,hbig]
       exact Bx.weak K' (by simp only[Bo,Ag,Nat.reduceEqDiff,↓reduceIte,reduceCtorEq,Nat.reduceAdd,and_self,and_true])
    ·have K':=K n true (.inr ⟨rfl,k3⟩)
     by_cases h1:1<(s.size:Int)
     ·have h2:=hno h1
      simp only[BM,↓C9,simprocAttr,forall_const,AF,AM,AN,AE,AG,AO,Aa,AL,Al,Ax,Ap,Ay,BT,BC,BG,hlt,hb,hd,hb0,h1,h2,c48,w1,w2,we]
      exact Bx.weak K' (by simp only[Bo,Ag,Nat.reduceEqDiff,↓reduceIte,reduceCtorEq,Nat.reduceAdd,and_self,and_true])
     ·simp only[BM,↓C9,simprocAttr,forall_const,AF,AM,AN,AE,AG,AO,Aa,AL,Al,Ax,Ap,Ay,BT,BC,BG,hlt,hb,hd,hb0,h1,c48,w1,w2,we]
      exact Bx.weak K' (by simp only[Bo,Ag,Nat.reduceEqDiff,↓reduceIte,reduceCtorEq,Nat.reduceAdd,and_self,and_true])
theorem BO(s:ByteArray)(h0:0<s.size)(hs:s.size≤100000)(h:AX)(Q:Ending→AX→Prop):Bz Tryz.prog 89 #[.string s] h Q=Q (.returned (.tuple #[.int .i64 (EO s.toList).1,.int .i64 (EO s.toList).2])) (h):=Bz.exact (by kernel_rfl) (RL s h0 hs h)
theorem CD(s:ByteArray)(h0:0<s.size)(hs:s.size≤100000)(A_:AH):Bi Tryz.prog 89 #[.string s] A_=some (.tuple #[.int .i64 (EO s.toList).1,.int .i64 (EO s.toList).2]):=DW (by kernel_rfl) (by kernel_rfl) (fun h=>RL s h0 hs h)
set_option maxHeartbeats 1000000
set_option maxRecDepth 20000
def JZ(c:UInt8):Bool:=decide (c.toNat<32)||decide (126<c.toNat)
def Dh:List UInt8→Option Nat
 | []=>none
 |c::l=>if c.toNat=34 then some 0 else if JZ c=true then none else match Dh l with|some k=>some (k+1)|none=>none
def LJ(l:List UInt8):Bool:=l.all fun c=> !JZ c
theorem HL: ∀l:List UInt8,Dh l=if Lib.indexByte l 34<0 then none else if LJ (l.take (Lib.indexByte l 34).toNat)=true then some (Lib.indexByte l 34).toNat else none
 | []=>by simp[Dh,Lib.indexByte]
 | c::l=>by
  have ih:=HL l
  have hge:=Lib.indexByte_ge l 34
  by_cases hc:c=34
  ·subst hc
   simp[Dh,Lib.indexByte,LJ]
  ·have h1:c.toNat≠34:=fun h=>hc (by apply UInt8.toNat.inj;exact h)
   simp only[Dh,Lib.indexByte,h1,if_false,beq_iff_eq,hc,ih]
   by_cases h2:Lib.indexByte l 34= -1
   ·simp[h2]
   ·have h3: ¬Lib.indexByte l 34+1<0:=by omega
    have h4:(Lib.indexByte l 34+1).toNat=(Lib.indexByte l 34).toNat+1:=by omega
    have h5: ¬Lib.indexByte l 34<0:=by omega
    simp only[h2,if_false,h3,h4,h5,List.take_succ_cons,LJ,List.all_cons]
    cases JZ c<;>simp
    split<;>simp_all
def Jy(s:ByteArray):ByteArray×Int:=match Dh (s.toList.drop 1)with|none=>(⟨#[]⟩,2)|some k=>if 100<k then(⟨#[]⟩,3)else(s.extract 1 (1+k),0)
theorem RC(s:ByteArray)(h0:0<s.size)(hs:s.size≤100000)(h:AX):CallsH Tryz.prog 83 #[.string s] h fun r h'=>r=.returned (.tuple #[.string (Jy s).1,.int .i64 (Jy s).2])∧h'=h:=by
 refine BU ⟨Tryz.prog,83,Tryz.f83,36,[0,2,3,4,5,6,17,18],_⟩ (args:=[_]) Tryz.func83 rfl Tryz.ntmps83 (by simp) ?_
 have h1:((1:Int)≤(s.size:Int))=True:=by simp;omega
 simp only[BM,↓C9,simprocAttr,forall_const,AF,AM,AN,AE,AG,AO,Aa,AL,Al,Ax,Ap,Ay,BT,BC,BG,BO,h1,Gz,show Nat.toUInt8 34=34 from rfl]
 by_cases hz:Lib.indexByte (s.toList.drop 1) 34<0
 ·rw[if_pos hz]
  simp only[Jy,HL,hz,if_true]
 rw[if_neg hz]
 obtain⟨k,hk⟩:=Int.eq_ofNat_of_zero_le (Int.not_lt.1 hz)
 have hkl:k+1<s.size:=by
  have h3:=Gx (s.toList.drop 1) 34
  rw[hk,List.length_drop,Ah]at h3
  rcases h3 with h3|h3
  ·omega
  ·rw[h3]at hk;simp[Lib.indexByte]at hk
 have hlit:Dh (s.toList.drop 1)=if LJ ((s.toList.drop 1).take k)=true then some k else none:=by
  rw[HL,if_neg hz,hk]
  simp
 rw[hk]
 have w1:IntKind.i64.wrap (1+(k:Int))=((1+k:Nat):Int):=by rw[Az (by omega) (by omega)];omega
 rw[w1]
 have hx:(s.extract 1 (1+k)).toList=(s.toList.drop 1).take k:=by
  rw[ByteArray.toList_eq,ByteArray.toList_eq,ByteArray.data_extract]
  simp
 have hxs:(s.extract 1 (1+k)).size=k:=by simp;omega
 refine⟨⟨by omega,by omega⟩, ?_⟩
 simp only[Int.toNat_natCast]
 rw[hxs]
 rw[←hx]at hlit
 generalize hxe:s.extract 1 (1+k)=x at*
 obtain⟨e,he,g1,g2⟩: ∃(e:Nat),e=0∧e≤x.size∧LJ x.toList=LJ (x.toList.drop e):=⟨0,rfl,by omega,rfl⟩
 rw[show(18,some (Value.int .i64 0))=(18,some (Value.int .i64 (e:Int))) by rw[he];rfl]
 clear he
 generalize hl:x.toList.drop e=l at g2
 induction l generalizing e with
 | nil=>
  have hlt:((e:Int)<(k:Int))=False:=by have:=DC hl;simp;omega
  have hG:LJ x.toList=true:=by rw[g2];rfl
  rw[hG]at hlit
  refine Bx.intro ?_
  simp only[BM,↓C9,simprocAttr,forall_const,AF,AM,AN,AE,AG,AO,Aa,AL,Al,Ax,Ap,Ay,BT,BC,BG,BO,hlt]
  rw[if_pos rfl]at hlit
  rw[hxs]
  have h100:(100<k)=(100<(k:Int)):=by simp;omega
  split
  ·rename_i h5
   simp only[Jy,hlit,h100,h5,if_true]
  ·rename_i h5
   simp only[Jy,hlit,h100,h5,if_false,hxe]
 | cons c l ih=>
  obtain⟨hp,hc,hl',hsl,hb⟩:=Ck hl
  have hlt:((e:Int)<(k:Int))=True:=by simp;omega
  have we:IntKind.i64.wrap ((e:Int)+1)=((e+1:Nat):Int):=by rw[Az (by omega) (by omega)];omega
  simp only[LJ,List.all_cons]at g2
  refine Bx.intro ?_
  cases hbad:JZ c with
  | true=>
   rw[hbad,Bool.not_true,Bool.false_and]at g2
   simp only[JZ,Bool.or_eq_true,decide_eq_true_eq]at hbad
   have hi:((c.toNat:Int)<32∨126<(c.toNat:Int))=True:=by simp;omega
   have hg:LJ x.toList=false:=g2
   rw[hg,if_neg (by decide)]at hlit
   by_cases b1:(c.toNat:Int)<32
   ·simp only[BM,↓C9,simprocAttr,forall_const,AF,AM,AN,AE,AG,AO,Aa,AL,Al,Ax,Ap,Ay,BT,BC,BG,BO,hlt,hb,b1]
    simp only[Jy,hlit]
   ·have b2:126<(c.toNat:Int):=by omega
    simp only[BM,↓C9,simprocAttr,forall_const,AF,AM,AN,AE,AG,AO,Aa,AL,Al,Ax,Ap,Ay,BT,BC,BG,BO,hlt,hb,b1,b2]
    simp only[Jy,hlit]
  |false=>
   rw[hbad,Bool.not_false,Bool.true_and]at g2
   have:=ih (e+1) (by omega) hl' g2
   simp only[JZ,Bool.or_eq_false_iff,decide_eq_false_iff_not]at hbad
   have b1: ¬(c.toNat:Int)<32:=by omega
   have b2: ¬126<(c.toNat:Int):=by omega
   simp only[BM,↓C9,simprocAttr,forall_const,AF,AM,AN,AE,AG,AO,Aa,AL,Al,Ax,Ap,Ay,BT,BC,BG,BO,hlt,hb,b1,b2,we]
   exact Bx.weak this (by simp only[Bo,Ag,Nat.reduceEqDiff,↓reduceIte,reduceCtorEq,Nat.reduceAdd,and_self,and_true])
theorem BZ(s:ByteArray)(h0:0<s.size)(hs:s.size≤100000)(h:AX)(Q:Ending→AX→Prop):Bz Tryz.prog 83 #[.string s] h Q=Q (.returned (.tuple #[.string (Jy s).1,.int .i64 (Jy s).2])) (h):=Bz.exact (by kernel_rfl) (RC s h0 hs h)
theorem CC(s:ByteArray)(h0:0<s.size)(hs:s.size≤100000)(A_:AH):Bi Tryz.prog 83 #[.string s] A_=some (.tuple #[.string (Jy s).1,.int .i64 (Jy s).2]):=DW (by kernel_rfl) (by kernel_rfl) (fun h=>RC s h0 hs h)
structure LR where
 k:Int
 t:ByteArray
 n:Int
 a:Nat
 nx:Nat
 e:Int
def LR.cells(r:LR):List Value:=[.int .i64 r.k,.string r.t,.int .i64 r.n,.int .i64 r.a]
def LR.val(r:LR):Value:=.tuple #[.agg #[.int .i64 r.k,.string r.t,.int .i64 r.n,.int .i64 r.a],.int .i64 r.nx,.int .i64 r.e]
def bad(e:Int):LR:=⟨0,⟨#[]⟩,0,0,0,e⟩
def EX(s:ByteArray)(i:Nat):LR:=match Dh (s.toList.drop (i+1))with|none=>bad 2|some k=>if 100<k then bad 3 else⟨3,s.extract (i+1) (i+1+k),0,i,i+k+2,0⟩
theorem Zp(s:ByteArray)(i:Nat)(hi:i<s.size)(hs:s.size≤100000)(h:AX):CallsH Tryz.prog 90 #[.string s,.int .i64 (i:Int)] h fun r h'=>r=.returned ((EX s i).val)∧Grew h h':=by
 refine BU ⟨Tryz.prog,90,Tryz.f90,53,[0,1,4,5,6,7],_⟩ (args:=[_,_]) Tryz.func90 rfl Tryz.ntmps90 (by simp) ?_
 have w1:IntKind.i64.wrap ((i:Int)+1)=((i+1:Nat):Int):=by rw[Az (by omega) (by omega)];omega
 simp only[BM,↓C9,simprocAttr,forall_const,AF,AM,AN,AE,AG,AO,Aa,AL,Al,Ax,Ap,Ay,BT,BC,BG,BO,BZ,w1]
 obtain⟨e,he,g1,g0,g2⟩: ∃(e:Nat),e=i+1∧e≤s.size∧i+1≤e∧Dh (s.toList.drop (i+1))=(Dh (s.toList.drop e)).map (· +(e - (i+1))):=⟨i+1,rfl,by omega,by omega,by
  cases Dh (s.toList.drop (i+1))<;>simp⟩
 rw[show(7,some (Value.int .i64 ((i+1:Nat):Int)))=(7,some (Value.int .i64 (e:Int))) by rw[he]]
 clear he
 generalize hl:s.toList.drop e=l at g2
 induction l generalizing e with
 |nil=>
  have hE:e=s.size:=by have:=DC hl;omega
  subst hE
  have hlt:((s.size:Int)<(s.size:Int))=False:=by simp
  refine Bx.intro ?_
  simp only[BM,↓C9,simprocAttr,forall_const,AF,AM,AN,AE,AG,AO,Aa,AL,Al,Ax,Ap,Ay,BT,BC,BG,BO,BZ,hlt]
  refine⟨?_,.push _ _⟩
  simp only[EX,g2,Dh,Option.map_none]
  rfl
 | cons c l ih=>
  obtain⟨hp,hc,hl',hsl,hb⟩:=Ck hl
  have hlt:((e:Int)<(s.size:Int))=True:=by simp;omega
  have we:IntKind.i64.wrap ((e:Int)+1)=((e+1:Nat):Int):=by rw[Az (by omega) (by omega)];omega
  have c34:=Pb c.toNat 34
  simp only[Dh]at g2
  refine Bx.intro ?_
  by_cases h34:c.toNat=34
  ·rw[if_pos h34]at g2
   simp only[h34,decide_true,Int.cast_ofNat_Int]at c34
   have hne:((e:Int)==(s.size:Int))=false:=by rw[beq_eq_false_iff_ne];omega
   have w2:IntKind.i64.wrap (IntKind.i64.wrap ((e:Int) - (i:Int)) - 1)=((e - i - 1:Nat):Int):=by
    rw[Az (n:=(e:Int) - (i:Int)) (by omega) (by omega),Az (by omega) (by omega)];omega
   simp only[BM,↓C9,simprocAttr,forall_const,AF,AM,AN,AE,AG,AO,Aa,AL,Al,Ax,Ap,Ay,BT,BC,BG,BO,BZ,hlt,hb,h34,c34,hne,w1,w2]
   simp only[Option.map_some]at g2
   have hk:e=i+1+(0+(e - (i+1))):=by omega
   generalize 0+(e - (i+1))=k at g2 hk
   subst hk
   have e1:i+1+k - i - 1=k:=by omega
   have w3:IntKind.i64.wrap (((i+1+k:Nat):Int)+1)=((i+k+2:Nat):Int):=by rw[Az (by omega) (by omega)];omega
   rw[e1,w3]
   have h100:(100<k)=(100<(k:Int)):=by simp;omega
   split
   ·rename_i h5
    refine⟨?_,.push _ _⟩
    simp only[EX,g2,h100,h5,if_true]
    rfl
   ·rename_i h5
    refine⟨⟨by omega,by omega⟩, ?_,.push _ _⟩
    simp only[EX,g2,h100,h5,if_false]
    rfl
  ·rw[if_neg h34]at g2
   have h34':((c.toNat:Int)=34)=False:=by simp;omega
   cases hbad:JZ c with
   | true=>
    rw[if_pos hbad]at g2
    simp only[JZ,Bool.or_eq_true,decide_eq_true_eq]at hbad
    by_cases b1:(c.toNat:Int)<32
    ·simp only[BM,↓C9,simprocAttr,forall_const,AF,AM,AN,AE,AG,AO,Aa,AL,Al,Ax,Ap,Ay,BT,BC,BG,BO,BZ,hlt,hb,b1,h34']
     refine⟨?_,.push _ _⟩
     simp only[EX,g2,Option.map_none]
     rfl
    ·have b2:126<(c.toNat:Int):=by omega
     simp only[BM,↓C9,simprocAttr,forall_const,AF,AM,AN,AE,AG,AO,Aa,AL,Al,Ax,Ap,Ay,BT,BC,BG,BO,BZ,hlt,hb,b1,b2,h34']
     refine⟨?_,.push _ _⟩
     simp only[EX,g2,Option.map_none]
     rfl
   | false=>
    rw[if_neg (by simp[hbad])]at g2
    have:=ih (e+1) (by omega) (by omega) hl' (by
     rw[g2]
     cases Dh l<;>simp
     omega)
    simp only[JZ,Bool.or_eq_false_iff,decide_eq_false_iff_not]at hbad
    have b1: ¬(c.toNat:Int)<32:=by omega
    have b2: ¬126<(c.toNat:Int):=by omega
    simp only[BM,↓C9,simprocAttr,forall_const,AF,AM,AN,AE,AG,AO,Aa,AL,Al,Ax,Ap,Ay,BT,BC,BG,BO,BZ,hlt,hb,b1,b2,we,h34']
    exact Bx.weak this (by simp only[Bo,Ag,Nat.reduceEqDiff,↓reduceIte,reduceCtorEq,Nat.reduceAdd,and_self,and_true])
theorem Co(s:ByteArray)(i:Nat)(hi:i<s.size)(hs:s.size≤100000)(A_:AH):Bi Tryz.prog 90 #[.string s,.int .i64 (i:Int)] A_=some ((EX s i).val):=Ms (by kernel_rfl) (by kernel_rfl) (fun h=>Zp s i hi hs h)
def Dk(l:List UInt8):Bool:=List.isPrefixOf [33,61] l||List.isPrefixOf [60,61] l
def BV(s:ByteArray)(i:Nat):LR:=match s.toList.drop i with
 | []=>bad 2
 |c::l=>
  if Dk (c::l)=true then⟨4,s.extract i (i+2),0,i,i+2,0⟩
  else if Ca c.toNat=true then(if 16<BW (c::l)then bad 3 else⟨1,s.extract i (i+BW (c::l)),0,i,i+BW (c::l),0⟩)
  else if BJ c.toNat=true then(if(EO (s.extract i (i+BW (c::l))).toList).2≠0 then bad (EO (s.extract i (i+BW (c::l))).toList).2 else⟨2,⟨#[]⟩,(EO (s.extract i (i+BW (c::l))).toList).1,i,i+BW (c::l),0⟩)
  else if c.toNat=34 then EX s i
  else if F0 c.toNat=true then⟨4,s.extract i (i+1),0,i,i+1,0⟩else bad 2
theorem od: ∀c,c<256→(GF c=2∧Ca c=true∧CA c=true)∨(GF c=3∧Ca c=false∧BJ c=true∧CA c=true)∨(GF c=5∧Ca c=false∧BJ c=false∧c=34)∨
  (GF c=7∧Ca c=false∧BJ c=false∧c≠34∧F0 c=true)∨(GF c≠2∧GF c≠3∧GF c≠5∧GF c≠7∧Ca c=false∧BJ c=false∧c≠34∧F0 c=false):=by decide+kernel
theorem iC: ∀c,c<256→F0 c=decide (0≤Lib.indexByte WZ c.toUInt8):=by decide+kernel
theorem Gs(a b c:UInt8)(l:List UInt8):List.isPrefixOf [a,b] (c::l)=true→c=a∧l.head? =some b∧0<l.length:=by
 intro h
 simp only[List.isPrefixOf,Bool.and_eq_true,beq_iff_eq]at h
 cases l with
 |nil=>simp[List.isPrefixOf]at h
 |cons d l=>simp[List.isPrefixOf]at h;simp[h.1,h.2]
theorem oJ(s:ByteArray)(i k:Nat)(h:i+1+k≤s.size):(s.extract i s.size).extract 1 (1+k)=s.extract (i+1) (i+1+k):=by
 rw[ByteArray.extract_extract]
 congr 1
 omega
theorem Rk(s:ByteArray)(i:Nat)(hi:i<s.size):(Jy (s.extract i s.size)=(⟨#[]⟩,2)∧EX s i=bad 2)∨(Jy (s.extract i s.size)=(⟨#[]⟩,3)∧EX s i=bad 3)∨
  ∃k,i+1+k<s.size∧Jy (s.extract i s.size)=(s.extract (i+1) (i+1+k),0)∧EX s i=⟨3,s.extract (i+1) (i+1+k),0,i,i+k+2,0⟩:=by
 have e1:(s.extract i s.size).toList.drop 1=s.toList.drop (i+1):=by rw[C0,List.drop_drop]
 unfold Jy EX
 rw[e1]
 cases hk:Dh (s.toList.drop (i+1))with
 |none=>exact .inl ⟨rfl,rfl⟩
 | some k=>
  simp only
  have hlt:i+1+k<s.size:=by
   rw[HL]at hk
   have h3:=Gx (s.toList.drop (i+1)) 34
   split at hk
   ·cases hk
   ·split at hk
    ·cases hk
     rename_i h4 _
     rcases h3 with h3|h3
     ·rw[List.length_drop,Ah]at h3;omega
     ·rw[h3]at h4;simp[Lib.indexByte]at h4
    ·cases hk
  split
  ·exact .inr (.inl ⟨rfl,rfl⟩)
  ·exact .inr (.inr ⟨k,hlt,by rw[oJ _ _ _ (by omega)],rfl⟩)
theorem GA(c:UInt8)(l:List UInt8):(ByteArray.mk #[33,61]).toList.isPrefixOf l=List.isPrefixOf [33,61] l:=by rw[ByteArray.toList_eq]
theorem F7(c:UInt8)(l:List UInt8):(ByteArray.mk #[60,61]).toList.isPrefixOf l=List.isPrefixOf [60,61] l:=by rw[ByteArray.toList_eq]
theorem LN(s:ByteArray)(i k:Nat)(h:i+k≤s.size):(s.extract i (i+k)).size=k:=by simp;omega
theorem OW(s:ByteArray)(i:Nat)(hi:i<s.size)(hs:s.size≤100000)(h:AX):CallsH Tryz.prog 51 #[.string s,.int .i64 (i:Int)] h fun r h'=>r=.returned ((BV s i).val)∧Grew h h':=by
 refine BU ⟨Tryz.prog,51,Tryz.f51,107,[0,1,4,5,6,7,8,9,10,11,12,36],_⟩ (args:=[_,_]) Tryz.func51 rfl Tryz.ntmps51 (by simp) ?_
 obtain⟨c,l,hl⟩:=EH hi
 obtain⟨hp,hc,hl',hsl,hb⟩:=Ck hl
 have hcl:=Dl c
 have w32:IntKind.i32.wrap (c.toNat:Int)=c.toNat:=Vd (by omega) (by omega)
 have hle1:((i:Int)≤(s.size:Int))=True:=by simp;omega
 have hle0:((0:Int)≤(i:Int))=True:=by simp
 have w1:IntKind.i64.wrap ((i:Int)+1)=((i+1:Nat):Int):=by rw[Az (by omega) (by omega)];omega
 have w2:IntKind.i64.wrap ((i:Int)+2)=((i+2:Nat):Int):=by rw[Az (by omega) (by omega)];omega
 have hle3:((i+1:Nat):Int)≤(s.size:Int):=by omega
 have hle4:((i:Int)≤((i+1:Nat):Int))=True:=by simp;omega
 have hle5:((i:Int)≤((i+2:Nat):Int))=True:=by simp;omega
 have hwl:i+BW (c::l)≤s.size:=by have:=GO (c::l);simp only[List.length_cons]at this;omega
 have hws:=LN s i (BW (c::l)) hwl
 have ww:IntKind.i64.wrap ((i:Int)+(BW (c::l):Int))=((i+BW (c::l):Nat):Int):=by rw[Az (by omega) (by omega)];omega
 have hi':i≤s.size:=by omega
 by_cases hA:List.isPrefixOf [33,61] (c::l)=true
 ·have h2:((i+2:Nat):Int)≤(s.size:Int):=by have:=Gs _ _ _ _ hA;omega
  simp only[BM,↓C9,simprocAttr,forall_const,AF,AM,AN,AE,AG,AO,Aa,AL,Al,Ax,Ap,Ay,BT,BC,BG,BO,BZ,hle1,hle0,hb,w32,hcl,C0,hl,GA c,F7 c,hA,w2,h2,hle5]
  simp only[BV,hl,Dk,hA,Bool.true_or,if_true]
  exact⟨rfl,.push _ _⟩
 have hA':List.isPrefixOf [33,61] (c::l)=false:=Bool.eq_false_iff.2 hA
 by_cases hB:List.isPrefixOf [60,61] (c::l)=true
 ·have h2:((i+2:Nat):Int)≤(s.size:Int):=by have:=Gs _ _ _ _ hB;omega
  simp only[BM,↓C9,simprocAttr,forall_const,AF,AM,AN,AE,AG,AO,Aa,AL,Al,Ax,Ap,Ay,BT,BC,BG,BO,BZ,hle1,hle0,hb,w32,hcl,C0,hl,GA c,F7 c,hA',hB,w2,h2,hle5]
  simp only[BV,hl,Dk,hA,hB,Bool.or_true,if_true]
  exact⟨rfl,.push _ _⟩
 have hB':List.isPrefixOf [60,61] (c::l)=false:=Bool.eq_false_iff.2 hB
 rcases od c.toNat hcl with⟨k0,k1,k2⟩|⟨k0,k1,k2,k3⟩|⟨k0,k1,k2,k3⟩|⟨k0,k1,k2,k3,k4⟩|⟨k0,j1,j2,j3,k1,k2,k3,k4⟩
 ·have h16:(16<BW (c::l))=(16<(BW (c::l):Int)):=by simp;omega
  by_cases h5:16<(BW (c::l):Int)
  ·simp only[BM,↓C9,simprocAttr,forall_const,AF,AM,AN,AE,AG,AO,Aa,AL,Al,Ax,Ap,Ay,BT,BC,BG,BO,BZ,hle1,hle0,hb,w32,hcl,C0,hl,GA c,F7 c,hA',hB',k0,hi',hs,hws,h5]
   simp only[BV,hl,Dk,hA',hB',k1,Bool.or_false,Bool.false_eq_true,if_true,if_false,h16,h5]
   exact⟨rfl,.push _ _⟩
  ·simp only[BM,↓C9,simprocAttr,forall_const,AF,AM,AN,AE,AG,AO,Aa,AL,Al,Ax,Ap,Ay,BT,BC,BG,BO,BZ,hle1,hle0,hb,w32,hcl,C0,hl,GA c,F7 c,hA',hB',k0,hi',hs,hws,h5,ww]
   simp only[BV,hl,Dk,hA',hB',k1,Bool.or_false,Bool.false_eq_true,if_true,if_false,h16,h5]
   exact⟨rfl,.push _ _⟩
 ·have hw0:0<BW (c::l):=by simp[BW,k3]
  have hz:0<(s.extract i (i+BW (c::l))).size:=by omega
  have hz2:BW (c::l)≤100000:=by omega
  by_cases h5:(EO (s.extract i (i+BW (c::l))).toList).2=0
  ·simp only[BM,↓C9,simprocAttr,forall_const,AF,AM,AN,AE,AG,AO,Aa,AL,Al,Ax,Ap,Ay,BT,BC,BG,BO,BZ,hle1,hle0,hb,w32,hcl,C0,hl,GA c,F7 c,hA',hB',k0,hi',hs,hw0,hz2,h5,ww,hws]
   simp only[BV,hl,Dk,hA',hB',k1,k2,Bool.or_false,Bool.false_eq_true,if_true,if_false,h5,ne_eq,not_true_eq_false]
   exact⟨rfl,.push _ _⟩
  ·simp only[BM,↓C9,simprocAttr,forall_const,AF,AM,AN,AE,AG,AO,Aa,AL,Al,Ax,Ap,Ay,BT,BC,BG,BO,BZ,hle1,hle0,hb,w32,hcl,C0,hl,GA c,F7 c,hA',hB',k0,hi',hs,hw0,hz2,h5,ww,hws]
   simp only[BV,hl,Dk,hA',hB',k1,k2,Bool.or_false,Bool.false_eq_true,if_true,if_false,h5,ne_eq,not_false_eq_true]
   exact⟨rfl,.push _ _⟩
 ·have hx0:0<(s.extract i s.size).size:=by simp;omega
  have hx1:(s.extract i s.size).size≤100000:=by simp;omega
  rcases Rk s i hi with⟨h5,h6⟩|⟨h5,h6⟩|⟨k,h4,h5,h6⟩
  ·simp only[BM,↓C9,simprocAttr,forall_const,AF,AM,AN,AE,AG,AO,Aa,AL,Al,Ax,Ap,Ay,BT,BC,BG,BO,BZ,hle1,hle0,hb,w32,hcl,C0,hl,GA c,F7 c,hA',hB',k0,hx0,hx1,h5]
   simp only[BV,hl,Dk,hA',hB',k1,k2,k3,Bool.or_false,Bool.false_eq_true,if_true,if_false,h6]
   exact⟨rfl,.push _ _⟩
  ·simp only[BM,↓C9,simprocAttr,forall_const,AF,AM,AN,AE,AG,AO,Aa,AL,Al,Ax,Ap,Ay,BT,BC,BG,BO,BZ,hle1,hle0,hb,w32,hcl,C0,hl,GA c,F7 c,hA',hB',k0,hx0,hx1,h5]
   simp only[BV,hl,Dk,hA',hB',k1,k2,k3,Bool.or_false,Bool.false_eq_true,if_true,if_false,h6]
   exact⟨rfl,.push _ _⟩
  ·have hk:=LN s (i+1) k (by omega)
   have w5:IntKind.i64.wrap (IntKind.i64.wrap ((i:Int)+(k:Int))+2)=((i+k+2:Nat):Int):=by
    rw[Az (n:=(i:Int)+(k:Int)) (by omega) (by omega),Az (by omega) (by omega)];omega
   simp only[BM,↓C9,simprocAttr,forall_const,AF,AM,AN,AE,AG,AO,Aa,AL,Al,Ax,Ap,Ay,BT,BC,BG,BO,BZ,hle1,hle0,hb,w32,hcl,C0,hl,GA c,F7 c,hA',hB',k0,hx0,hx1,h5,hk,w5]
   simp only[BV,hl,Dk,hA',hB',k1,k2,k3,Bool.or_false,Bool.false_eq_true,if_true,if_false,h6]
   exact⟨rfl,.push _ _⟩
 ·simp only[BM,↓C9,simprocAttr,forall_const,AF,AM,AN,AE,AG,AO,Aa,AL,Al,Ax,Ap,Ay,BT,BC,BG,BO,BZ,hle1,hle0,hb,w32,hcl,C0,hl,GA c,F7 c,hA',hB',k0,w1,hle3,hle4]
  simp only[BV,hl,Dk,hA',hB',k1,k2,k3,k4,Bool.or_false,Bool.false_eq_true,if_true,if_false]
  exact⟨rfl,.push _ _⟩
 ·simp only[BM,↓C9,simprocAttr,forall_const,AF,AM,AN,AE,AG,AO,Aa,AL,Al,Ax,Ap,Ay,BT,BC,BG,BO,BZ,hle1,hle0,hb,w32,hcl,C0,hl,GA c,F7 c,hA',hB',k0,j1,j2,j3]
  simp only[BV,hl,Dk,hA',hB',k1,k2,k3,k4,Bool.or_false,Bool.false_eq_true,if_true,if_false]
  exact⟨rfl,.push _ _⟩
theorem Bw(s:ByteArray)(i:Nat)(hi:i<s.size)(hs:s.size≤100000)(A_:AH):Bi Tryz.prog 51 #[.string s,.int .i64 (i:Int)] A_=some ((BV s i).val):=Ms (by kernel_rfl) (by kernel_rfl) (fun h=>OW s i hi hs h)
set_option maxHeartbeats 1000000
set_option maxRecDepth 20000
theorem KE(c:UInt8)(l:List UInt8)(h:Dk (c::l)=true):Ca c.toNat=false∧BJ c.toNat=false∧(c.toNat=34)=False:=by
 simp only[Dk,Bool.or_eq_true]at h
 rcases h with h|h<;>have:=(Gs _ _ _ _ h).1<;>subst this<;>decide
theorem cJ(s:ByteArray)(i:Nat)(hi:i<s.size)(hs:s.size≤100000)(h:AX):CallsH Tryz.prog 64 #[.string s,.int .i64 (i:Int)] h fun r h'=>r=.returned ((BV s i).val)∧Grew h h':=by
 refine BU ⟨Tryz.prog,64,Tryz.f64,102,[0,1,4,5,6,7,8,9,10],_⟩ (args:=[_,_]) Tryz.func64 rfl Tryz.ntmps64 (by simp) ?_
 obtain⟨c,l,hl⟩:=EH hi
 obtain⟨hp,hc,hl',hsl,hb⟩:=Ck hl
 have hcl:=Dl c
 have e1:(ByteArray.mk #[40,41,123,125,44,59,58,61,60,62,43,45,42,37,46]).data.toList=WZ:=rfl
 have c34:((c.toNat:Int)==34)=decide (c.toNat=34):=Pb c.toNat 34
 have d34:((c.toNat:Int)=34)=(c.toNat=34):=by simp;omega
 have hle1:((i:Int)≤(s.size:Int))=True:=by simp;omega
 have hle0:((0:Int)≤(i:Int))=True:=by simp
 have w1:IntKind.i64.wrap ((i:Int)+1)=((i+1:Nat):Int):=by rw[Az (by omega) (by omega)];omega
 have w2:IntKind.i64.wrap ((i:Int)+2)=((i+2:Nat):Int):=by rw[Az (by omega) (by omega)];omega
 have hle3:((i+1:Nat):Int)≤(s.size:Int):=by omega
 have hle4:((i:Int)≤((i+1:Nat):Int))=True:=by simp;omega
 have hle5:((i:Int)≤((i+2:Nat):Int))=True:=by simp;omega
 have hwl:i+BW (c::l)≤s.size:=by have:=GO (c::l);simp only[List.length_cons]at this;omega
 have hle6:((i+BW (c::l):Nat):Int)≤(s.size:Int):=by omega
 have hle7:(i:Int)≤((i+BW (c::l):Nat):Int):=by omega
 have hws:=LN s i (BW (c::l)) hwl
 have ww:IntKind.i64.wrap (((i+BW (c::l):Nat):Int) - (i:Int))=((BW (c::l):Nat):Int):=by rw[Az (by omega) (by omega)];omega
 have hi':i≤s.size:=by omega
 have hm:=iC c.toNat hcl
 cases h1:Ca c.toNat with
 | true=>
  have hp2:Dk (c::l)=false:=by
   cases hp2:Dk (c::l)with
   |true=>have:=(KE c l hp2).1;rw[h1]at this;cases this
   |false=>rfl
  have h16:(16<BW (c::l))=(16<(BW (c::l):Int)):=by simp;omega
  by_cases h5:16<(BW (c::l):Int)
  ·simp only[BM,↓C9,simprocAttr,forall_const,AF,AM,AN,AE,AG,AO,Aa,AL,Al,Ax,Ap,Ay,BT,BC,BG,BO,BZ,hle1,hle0,hb,hl,h1,hi',hs,ww,h5]
   simp only[BV,hl,hp2,h1,Bool.or_false,Bool.false_eq_true,if_true,if_false,h16,h5]
   exact⟨rfl,.push _ _⟩
  ·simp only[BM,↓C9,simprocAttr,forall_const,AF,AM,AN,AE,AG,AO,Aa,AL,Al,Ax,Ap,Ay,BT,BC,BG,BO,BZ,hle1,hle0,hb,hl,h1,hi',hs,ww,h5,hle6,hle7]
   simp only[BV,hl,hp2,h1,Bool.or_false,Bool.false_eq_true,if_true,if_false,h16,h5]
   exact⟨rfl,.push _ _⟩
 | false=>
  cases h2:BJ c.toNat with
  | true=>
   have hp2:Dk (c::l)=false:=by
    cases hp2:Dk (c::l)with
    |true=>have:=(KE c l hp2).2.1;rw[h2]at this;cases this
    |false=>rfl
   have hw0:0<BW (c::l):=by simp[BW,CA,h2]
   have hz2:BW (c::l)≤100000:=by omega
   by_cases h5:(EO (s.extract i (i+BW (c::l))).toList).2=0
   ·simp only[BM,↓C9,simprocAttr,forall_const,AF,AM,AN,AE,AG,AO,Aa,AL,Al,Ax,Ap,Ay,BT,BC,BG,BO,BZ,hle1,hle0,hb,hl,h1,h2,hi',hs,ww,h5,hle6,hle7,hws,hw0,hz2]
    simp only[BV,hl,hp2,h1,h2,Bool.or_false,Bool.false_eq_true,if_true,if_false,h5,ne_eq,not_true_eq_false]
    exact⟨rfl,.push _ _⟩
   ·simp only[BM,↓C9,simprocAttr,forall_const,AF,AM,AN,AE,AG,AO,Aa,AL,Al,Ax,Ap,Ay,BT,BC,BG,BO,BZ,hle1,hle0,hb,hl,h1,h2,hi',hs,ww,h5,hle6,hle7,hws,hw0,hz2]
    simp only[BV,hl,hp2,h1,h2,Bool.or_false,Bool.false_eq_true,if_true,if_false,h5,ne_eq,not_false_eq_true]
    exact⟨rfl,.push _ _⟩
  | false=>
   by_cases h3:c.toNat=34
   ·have hp2:Dk (c::l)=false:=by
     cases hp2:Dk (c::l)with
     |true=>have:=(KE c l hp2).2.2;rw[this]at h3;cases h3
     |false=>rfl
    have d34:((c.toNat:Int)=34)=True:=by simp;omega
    simp only[BM,↓C9,simprocAttr,forall_const,AF,AM,AN,AE,AG,AO,Aa,AL,Al,Ax,Ap,Ay,BT,BC,BG,BO,BZ,hle1,hle0,hb,hl,h1,h2,d34]
    refine(Zp s i hi hs _).mono ?_
    rintro _ h2' ⟨rfl,g⟩
    have hk:h2'[Array.size h]? =some (Obj.cells #[Value.int IntKind.i64 0,Value.string {data:= #[]},Value.int IntKind.i64 0,Value.int IntKind.i64 0] 51):=g.get (by simp)
    have hk1:Array.size h<Array.size h2':=by have:=g.le;simp at this;omega
    have hg0:Grew h h2':=Grew.trans (.push _ _) g
    simp only[BM,↓C9,simprocAttr,forall_const,AF,AM,AN,AE,AG,AO,Aa,AL,Al,Ax,Ap,Ay,BT,BC,BG,BO,BZ,LR.val,hk,hk1]
    have e:BV s i=EX s i:=by
     simp only[BV,hl,hp2,h1,h2,Bool.or_false,Bool.false_eq_true,if_true,if_false]
     rw[if_pos h3]
    rw[e]
    exact⟨rfl,hg0.set (Nat.le_refl _) _⟩
   ·have d34:((c.toNat:Int)=34)=False:=by simp;omega
    have c34:((c.toNat:Int)==34)=false:=by rw[beq_eq_false_iff_ne];omega
    by_cases hA:List.isPrefixOf [33,61] (c::l)=true
    ·have h2':((i+2:Nat):Int)≤(s.size:Int):=by have:=Gs _ _ _ _ hA;omega
     simp only[BM,↓C9,simprocAttr,forall_const,AF,AM,AN,AE,AG,AO,Aa,AL,Al,Ax,Ap,Ay,BT,BC,BG,BO,BZ,hle1,hle0,hb,hl,h1,h2,d34,c34,C0,GA c,F7 c,hA,w2,h2',hle5]
     simp only[BV,hl,Dk,hA,Bool.true_or,if_true]
     exact⟨rfl,.push _ _⟩
    have hA':List.isPrefixOf [33,61] (c::l)=false:=Bool.eq_false_iff.2 hA
    by_cases hB:List.isPrefixOf [60,61] (c::l)=true
    ·have h2':((i+2:Nat):Int)≤(s.size:Int):=by have:=Gs _ _ _ _ hB;omega
     simp only[BM,↓C9,simprocAttr,forall_const,AF,AM,AN,AE,AG,AO,Aa,AL,Al,Ax,Ap,Ay,BT,BC,BG,BO,BZ,hle1,hle0,hb,hl,h1,h2,d34,c34,C0,GA c,F7 c,hA',hB,w2,h2',hle5]
     simp only[BV,hl,Dk,hA,hB,Bool.or_true,if_true]
     exact⟨rfl,.push _ _⟩
    have hB':List.isPrefixOf [60,61] (c::l)=false:=Bool.eq_false_iff.2 hB
    by_cases h7:0≤Lib.indexByte WZ c.toNat.toUInt8
    ·have h8:F0 c.toNat=true:=by rw[hm];simpa using h7
     have h7:0≤Lib.indexByte [40,41,123,125,44,59,58,61,60,62,43,45,42,37,46] c.toNat.toUInt8:=h7
     simp only[BM,↓C9,simprocAttr,forall_const,AF,AM,AN,AE,AG,AO,Aa,AL,Al,Ax,Ap,Ay,BT,BC,BG,BO,BZ,hle1,hle0,hb,hl,h1,h2,d34,c34,C0,GA c,F7 c,hA',hB',e1,h7,w1,hle3,hle4]
     simp only[BV,hl,Dk,hA',hB',h1,h2,h3,h8,Bool.or_false,Bool.false_eq_true,if_true,if_false]
     exact⟨rfl,.push _ _⟩
    ·have h8:F0 c.toNat=false:=by rw[hm];simpa using h7
     have h7: ¬0≤Lib.indexByte [40,41,123,125,44,59,58,61,60,62,43,45,42,37,46] c.toNat.toUInt8:=h7
     simp only[BM,↓C9,simprocAttr,forall_const,AF,AM,AN,AE,AG,AO,Aa,AL,Al,Ax,Ap,Ay,BT,BC,BG,BO,BZ,hle1,hle0,hb,hl,h1,h2,d34,c34,C0,GA c,F7 c,hA',hB',e1,h7,w1,hle3,hle4]
     simp only[BV,hl,Dk,hA',hB',h1,h2,h3,h8,Bool.or_false,Bool.false_eq_true,if_true,if_false]
     exact⟨rfl,.push _ _⟩
theorem CE(s:ByteArray)(i:Nat)(hi:i<s.size)(hs:s.size≤100000)(A_:AH):Bi Tryz.prog 64 #[.string s,.int .i64 (i:Int)] A_=some ((BV s i).val):=Ms (by kernel_rfl) (by kernel_rfl) (fun h=>cJ s i hi hs h)
set_option maxHeartbeats 1000000
set_option maxRecDepth 20000
def Es(s:ByteArray):LR:=⟨0,⟨#[]⟩,0,s.size,0,0⟩
def B8(s:ByteArray):Nat→Nat→Int×Nat×List LR
 |0,_=>(0,0,[])
 | f+1,i=>if s.size≤i then(0,0,[Es s])else if(BV s i).e≠0 then((BV s i).e,i,[])else
   ((B8 s f ((BV s i).nx+Cs false (s.toList.drop (BV s i).nx))).1,(B8 s f ((BV s i).nx+Cs false (s.toList.drop (BV s i).nx))).2.1,
    if(B8 s f ((BV s i).nx+Cs false (s.toList.drop (BV s i).nx))).1=0 then BV s i::(B8 s f ((BV s i).nx+Cs false (s.toList.drop (BV s i).nx))).2.2 else [])
def AV(s:ByteArray):Int×Nat×List LR:=if 4000<s.size then(3,0,[])else B8 s (s.size+1) (Cs false s.toList)
def Gm(l:List LR):List Value:=l.flatMap LR.cells
def nr(R:Int×Nat×List LR)(h:AX)(r:Ending)(h':AX):Prop:= ∃v,r=.returned (.tuple #[v,.int .i64 R.1,.int .i64 R.2.1])∧FC h' h.size 51 4 v R.2.2.length (Gm R.2.2)∧Grew h h'
theorem sc0:C4 Tryz.prog 44 0 []=some (51,#[]):=by kernel_rfl
theorem sc1(a b c d:Value):C4 Tryz.prog 44 1 [(0,.agg #[a,b,c,d])]=some (51,#[a,b,c,d]):=by kernel_rfl
theorem Eo(s:ByteArray)(i:Nat)(hi:i<s.size)(h0:(BV s i).e=0):i<(BV s i).nx∧(BV s i).nx≤s.size:=by
 obtain⟨c,l,hl⟩:=EH hi
 obtain⟨hp,hc,hl',hsl,hb⟩:=Ck hl
 have hwl:i+BW (c::l)≤s.size:=by have:=GO (c::l);simp only[List.length_cons]at this;omega
 revert h0
 unfold BV
 rw[hl]
 simp only
 split
 ·rename_i h1
  have:0<l.length:=by
   simp only[Dk,Bool.or_eq_true]at h1
   rcases h1 with h1|h1<;>exact(Gs _ _ _ _ h1).2.2
  intro _;simp only;omega
 split
 ·rename_i h1
  split
  ·intro h;cases h
  ·have:0<BW (c::l):=by simp[BW,CA,h1]
   intro _;simp only;omega
 split
 ·rename_i h1
  split
  ·intro h;rename_i h2;exact absurd h h2
  ·have:0<BW (c::l):=by simp[BW,CA,h1]
   intro _;simp only;omega
 split
 ·rcases Rk s i hi with⟨_,h6⟩|⟨_,h6⟩|⟨k,h4,_,h6⟩
  ·rw[h6];intro h;cases h
  ·rw[h6];intro h;cases h
  ·rw[h6];intro _;simp only;omega
 split
 ·intro _;simp only;omega
 ·intro h;cases h
theorem HR(s:ByteArray)(i:Nat)(hi:i≤s.size):i+Cs false (s.toList.drop i)≤s.size:=by
 have:=Fd false (s.toList.drop i)
 rw[List.length_drop,Ah]at this
 omega
def TC(s:ByteArray)(R:Int×Nat×List LR)(acc:List LR)(m i:Nat):Prop:=s.size<i+m∧R=((B8 s m i).1,(B8 s m i).2.1,if(B8 s m i).1=0 then acc++(B8 s m i).2.2 else [])
theorem TC.last{s:ByteArray}{R:Int×Nat×List LR}{acc:List LR}{m i:Nat}(h:TC s R acc m i)(hi:i≤s.size)(hn: ¬i<s.size):R=(0,0,acc++[Es s]):=by
 obtain⟨h1,rfl⟩:=h
 cases m with
 |zero=>omega
 |succ m=>
  have:s.size≤i:=by omega
  simp[B8,this]
theorem TC.err{s:ByteArray}{R:Int×Nat×List LR}{acc:List LR}{m i:Nat}(h:TC s R acc m i)(hi:i<s.size)(he: ¬(BV s i).e=0):R=((BV s i).e,i,[]):=by
 obtain⟨h1,rfl⟩:=h
 cases m with
 |zero=>omega
 |succ m=>
  have: ¬s.size≤i:=by omega
  simp[B8,this,he]
theorem TC.next{s:ByteArray}{R:Int×Nat×List LR}{acc:List LR}{m i:Nat}(h:TC s R acc m i)(hi:i<s.size)(he:(BV s i).e=0): ∃m',m=m'+1∧TC s R (acc++[BV s i]) m' ((BV s i).nx+Cs false (s.toList.drop (BV s i).nx)):=by
 obtain⟨h1,rfl⟩:=h
 cases m with
 |zero=>omega
 |succ m=>
  refine⟨m,rfl, ?_, ?_⟩
  ·have:=Eo s i hi he;omega
  have: ¬s.size≤i:=by omega
  simp only[B8,this,if_false,he,ne_eq,not_true_eq_false]
  split<;>simp
theorem vL(s:ByteArray)(hs:s.size≤100000)(h:AX):CallsH Tryz.prog 18 #[.string s] h (nr (AV s) h):=by
 refine BU ⟨Tryz.prog,18,Tryz.f18,44,[0,2,3,4,5,6,7,8,9],_⟩ (args:=[_]) Tryz.func18 rfl Tryz.ntmps18 (by simp) ?_
 by_cases h4:(4000:Int)<(s.size:Int)
 ·simp only[BM,↓C9,simprocAttr,forall_const,AF,AM,AN,AE,AG,AO,Aa,AL,Al,Ax,Ap,Ay,BT,BC,BG,BO,BZ,h4]
  have:4000<s.size:=by omega
  refine⟨.slice none 0 0, ?_, ?_,.refl _⟩
  ·simp only[AV,this,if_true];rfl
  ·simp only[AV,this,if_true];exact FC.nil ..
 have sk0: ∀h Q,Bz Tryz.prog 50 #[.string s,.int .i64 0] h Q=Q (.returned (.int .i64 ((Cs false s.toList:Nat):Int))) h:=fun h Q=>by
  have e:=BT s 0 (by omega) hs h Q
  simp only[List.drop_zero,Nat.zero_add]at e
  exact e
 simp only[BM,↓C9,simprocAttr,forall_const,AF,AM,AN,AE,AG,AO,Aa,AL,Al,Ax,Ap,Ay,BT,BC,BG,BO,BZ,h4,sc0,sk0]
 clear sk0
 have hM:TC s (AV s) [] (s.size+1) (Cs false s.toList):=by
  have: ¬4000<s.size:=by omega
  refine⟨by omega, ?_⟩
  simp only[AV,this,if_false,Nat.zero_add,List.drop_zero,List.nil_append]
  split
  ·rfl
  ·rename_i h5
   have hz: ∀m i,(B8 s m i).1≠0→(B8 s m i).2.2=[]:=by
    intro m
    induction m with
    |zero=>intro i h;simp[B8]at h
    | succ m ih=>
     intro i
     simp only[B8]
     split
     ·intro h;simp at h
     ·split
      ·intro _;rfl
      ·intro h;simp only at h;simp only[h,if_false]
   rw[←hz _ _ h5]
 have hiz:Cs false s.toList≤s.size:=by have:=HR s 0 (by omega);simpa using this
 have own:FC (h.push (.cells #[] 51)) h.size 51 4 (.slice (some ⟨h.size,0,none⟩) 0 0) ([]:List LR).length (Gm []):=
  FC.of (Nat.le_refl _) (by simp;rfl) (by simp) (by simp[maxLen]) (by simp) (by simp[Gm]) (by simp[Gm])
 have g2:Grew h (h.push (.cells #[] 51)):=.push _ _
 have hlen:([]:List LR).length≤Cs false s.toList:=by simp
 generalize hm:s.size+1=m at hM
 clear hm
 generalize Value.slice (some ⟨h.size,0,none⟩) 0 0=v at own⊢
 generalize Cs false s.toList=i at*
 generalize hacc:([]:List LR)=acc at own hM hlen
 clear hacc
 generalize h.push (.cells #[] 51)=h2 at*
 induction m generalizing v i acc h2 with
 |zero=>have:=hM.1;omega
 | succ m ih=>
  refine Bx.intro ?_
  by_cases hlt:(i:Int)<(s.size:Int)
  ·simp only[BM,↓C9,simprocAttr,forall_const,AF,AM,AN,AE,AG,AO,Aa,AL,Al,Ax,Ap,Ay,BT,BC,BG,BO,BZ,hlt]
   refine(OW s i (by omega) hs h2).mono ?_
   rintro _ h3 ⟨rfl,g3⟩
   by_cases he:(BV s i).e=0
   ·simp only[BM,↓C9,simprocAttr,forall_const,AF,AM,AN,AE,AG,AO,Aa,AL,Al,Ax,Ap,Ay,BT,BC,BG,BO,BZ,LR.val,he,sc1]
    obtain⟨m',hm',hN⟩:=hM.next (by omega) he
    obtain rfl:m'=m:=by omega
    have hnx:=Eo s i (by omega) he
    have g5:=((g2.trans g3).pushed (.cells (LR.cells (BV s i)).toArray 51))
    have own3:=((own.grew g3).grew (.push h3 (.cells (LR.cells (BV s i)).toArray 51))).grew (.push _ (.cells (LR.cells (BV s i)).toArray 51))
    refine Q2 (news:=LR.cells (BV s i)) (m:=1) Xf Zi rfl (by decide) own3 rfl (YW _ _ (by simp) _ _ _) (by simp[LR.cells,Value.oneCell']) (by simp[maxLen];omega) (by omega) (by have:=g5.le;simp at this ⊢;omega) ?_
    intro v' h4' o' gB _
    have g4:Grew h h4':=gB.grew (g5.pushed _) own3.row
    have hnx':=hnx.2
    simp only[BM,↓C9,simprocAttr,forall_const,AF,AM,AN,AE,AG,AO,Aa,AL,Al,Ax,Ap,Ay,BT,BC,BG,BO,BZ,hnx',hs]
    refine Bx.weak (ih v' _ (HR s _ hnx') (acc++[BV s i]) hN ?_ h4' g4 ?_) (by simp only[Bo,Ag,Nat.reduceEqDiff,↓reduceIte,reduceCtorEq,Nat.reduceAdd,and_self,and_true])
    ·simp;omega
    ·have e1:(acc++[BV s i]).length=acc.length+1:=by simp
     have e2:Gm (acc++[BV s i])=Gm acc++(BV s i).cells:=by simp[Gm]
     rw[e1,e2]
     exact o'
   ·simp only[BM,↓C9,simprocAttr,forall_const,AF,AM,AN,AE,AG,AO,Aa,AL,Al,Ax,Ap,Ay,BT,BC,BG,BO,BZ,LR.val,he]
    have hR:=hM.err (by omega) he
    refine⟨.slice none 0 0, ?_, ?_, ?_⟩
    ·rw[hR]
    ·rw[hR];exact FC.nil ..
    ·exact(g2.trans g3).pushed _
  ·simp only[BM,↓C9,simprocAttr,forall_const,AF,AM,AN,AE,AG,AO,Aa,AL,Al,Ax,Ap,Ay,BT,BC,BG,BO,BZ,hlt,sc1]
   have hR:=hM.last hiz (by omega)
   have own3:=own.grew (.push h2 (.cells (LR.cells (Es s)).toArray 51))
   refine Q2 (news:=LR.cells (Es s)) (m:=1) Xf Zi rfl (by decide) own3 rfl (YW _ _ (by simp) _ _ _) (by simp[LR.cells,Value.oneCell']) (by simp[maxLen];omega) (by omega) (by have:=g2.le;simp;omega) ?_
   intro v' h4' o' gB _
   have g4:Grew h h4':=gB.grew (g2.pushed _) own3.row
   simp only[BM,↓C9,simprocAttr,forall_const,AF,AM,AN,AE,AG,AO,Aa,AL,Al,Ax,Ap,Ay,BT,BC,BG,BO,BZ]
   refine⟨v', ?_, ?_,g4⟩
   ·rw[hR];rfl
   ·have e1:(acc++[Es s]).length=acc.length+1:=by simp
    have e2:Gm (acc++[Es s])=Gm acc++(Es s).cells:=by simp[Gm]
    rw[hR,e1,e2]
    exact o'
end Go.Proofs.YtfphceknmgadgaaGreatDoor
