/-
The lexer as functions of bytes, and in memory.
Conditions: none.
-/
import Derived.Test.YtgmfcdeknaeikaaGreatDoorQy
import Derived.Lib.Bytealg
import Derived.Lib.IndexLaws
set_option linter.unusedSimpArgs false
set_option linter.unusedVariables false
namespace Go.Proofs.YtgmfcdeknaeikaaGreatDoor
open Go.Vm
set_option maxHeartbeats 1000000
set_option maxRecDepth 20000
theorem Jb(s:ByteArray)(c:Int)(h:AL)(Q:Ending→AL→Prop)(hQ:Q (.returned (.int .i64 (Lib.indexByte s.data.toList c.toNat.toUInt8))) h):
  YR Tryz.prog 142 #[.string s,.int .u8 c] h Q:=by
 refine Zn (e:=Extern.BytealgIndexByte.indexByte) Tryz.func142 (by kernel_rfl) (by kernel_rfl) (by kernel_rfl) (by kernel_rfl) (fun w=>Lib.run_indexByteString ..) hQ
theorem He(s:ByteArray)(c:Int)(h:AL):CallsH Tryz.prog 112 #[.string s,.int .u8 c] h fun r h'=>r=.returned (.int .i64 (Lib.indexByte s.data.toList c.toNat.toUInt8))∧h'=h:=by
 refine AY ⟨Tryz.prog,112,Tryz.f112,8,[0,1,4],_⟩ (args:=[_,_]) Tryz.func112 rfl Tryz.ntmps112 (by simp) ?_
 simp only[Aa,↓Bl,simprocAttr]
 refine Jb s c h _ ?_
 simp only[Aa,↓Bl,simprocAttr]
theorem Fm(s:ByteArray)(c:Int)(h:AL)(Q:Ending→AL→Prop):Ap Tryz.prog 112 #[.string s,.int .u8 c] h Q=Q (.returned (.int .i64 (Lib.indexByte s.data.toList c.toNat.toUInt8))) (h):=Ap.exact (by kernel_rfl) (He s c h)
theorem Cd(s:ByteArray)(c:Int)(A_:AH):Ag Tryz.prog 112 #[.string s,.int .u8 c] A_=some (.int .i64 (Lib.indexByte s.data.toList c.toNat.toUInt8)):=C3 (by kernel_rfl) (by kernel_rfl) (fun h=>He s c h)
theorem Ki(s:ByteArray)(c:Int)(h:AL):CallsH Tryz.prog 77 #[.string s,.int .u8 c] h fun r h'=>r=.returned (.int .i64 (Lib.indexByte s.data.toList c.toNat.toUInt8))∧h'=h:=by
 refine AY ⟨Tryz.prog,77,Tryz.f77,8,[0,1,4],_⟩ (args:=[_,_]) Tryz.func77 rfl Tryz.ntmps77 (by simp) ?_
 simp only[Aa,↓Bl,simprocAttr,Fm]
theorem C7(s:ByteArray)(c:Int)(h:AL)(Q:Ending→AL→Prop):Ap Tryz.prog 77 #[.string s,.int .u8 c] h Q=Q (.returned (.int .i64 (Lib.indexByte s.data.toList c.toNat.toUInt8))) (h):=Ap.exact (by kernel_rfl) (Ki s c h)
theorem C8(s:ByteArray)(c:Int)(A_:AH):Ag Tryz.prog 77 #[.string s,.int .u8 c] A_=some (.int .i64 (Lib.indexByte s.data.toList c.toNat.toUInt8)):=C3 (by kernel_rfl) (by kernel_rfl) (fun h=>Ki s c h)
theorem Kj(s:ByteArray)(c:Int)(h0:0≤c)(h1:c<128)(h:AL):CallsH Tryz.prog 132 #[.string s,.int .i32 c] h fun r h'=>r=.returned (.int .i64 (Lib.indexByte s.data.toList c.toNat.toUInt8))∧h'=h:=by
 refine AY ⟨Tryz.prog,132,Tryz.f132,187,[0,1,4,5,6,7,8,9,10,11,12,13,14,15,16,175,176],_⟩ (args:=[_,_]) Tryz.func132 rfl Tryz.ntmps132 (by simp) ?_
 have h3:IntKind.u8.wrap c=c:=KY (by omega) (by omega)
 simp only[Aa,↓Bl,simprocAttr,C7,h0,h1,h3]
theorem G2(s:ByteArray)(c:Int)(h0:0≤c)(h1:c<128)(h:AL)(Q:Ending→AL→Prop):Ap Tryz.prog 132 #[.string s,.int .i32 c] h Q=Q (.returned (.int .i64 (Lib.indexByte s.data.toList c.toNat.toUInt8))) (h):=Ap.exact (by kernel_rfl) (Kj s c h0 h1 h)
theorem C9(s:ByteArray)(c:Int)(h0:0≤c)(h1:c<128)(A_:AH):Ag Tryz.prog 132 #[.string s,.int .i32 c] A_=some (.int .i64 (Lib.indexByte s.data.toList c.toNat.toUInt8)):=C3 (by kernel_rfl) (by kernel_rfl) (fun h=>Kj s c h0 h1 h)
theorem Gs(s:ByteArray)(c:Int)(h0:0≤c)(h1:c<128)(h:AL):CallsH Tryz.prog 101 #[.string s,.int .i32 c] h fun r h'=>r=.returned (.bool (decide (0≤Lib.indexByte s.data.toList c.toNat.toUInt8)))∧h'=h:=by
 refine AY ⟨Tryz.prog,101,Tryz.f101,9,[0,1,4],_⟩ (args:=[_,_]) Tryz.func101 rfl Tryz.ntmps101 (by simp) ?_
 simp only[Aa,↓Bl,simprocAttr,G2,h0,h1]
theorem Eg(s:ByteArray)(c:Int)(h0:0≤c)(h1:c<128)(h:AL)(Q:Ending→AL→Prop):Ap Tryz.prog 101 #[.string s,.int .i32 c] h Q=Q (.returned (.bool (decide (0≤Lib.indexByte s.data.toList c.toNat.toUInt8)))) (h):=Ap.exact (by kernel_rfl) (Gs s c h0 h1 h)
theorem CM(s:ByteArray)(c:Int)(h0:0≤c)(h1:c<128)(A_:AH):Ag Tryz.prog 101 #[.string s,.int .i32 c] A_=some (.bool (decide (0≤Lib.indexByte s.data.toList c.toNat.toUInt8))):=C3 (by kernel_rfl) (by kernel_rfl) (fun h=>Gs s c h0 h1 h)
theorem EL: ∀(p l:List UInt8),p.isPrefixOf l=(l.take p.length==p)
 | [],l=>by simp
 |a::p,[]=>by simp[List.isPrefixOf]
 |a::p,b::l=>by
  simp only[List.isPrefixOf,List.length_cons,List.take_succ_cons,EL p l]
  rw[Bool.eq_iff_iff]
  simp only[Bool.and_eq_true,beq_iff_eq,List.cons.injEq]
  exact⟨fun⟨x,y⟩=>⟨x.symm,y⟩,fun⟨x,y⟩=>⟨x.symm,y⟩⟩
theorem ME{s p:ByteArray}(h:p.size≤s.size):((s.extract 0 p.size).toList==p.toList)=p.toList.isPrefixOf s.toList:=by
 rw[EL,ByteArray.toList_eq,ByteArray.toList_eq,ByteArray.toList_eq]
 have:(s.extract 0 p.size).data.toList=s.data.toList.take p.data.toList.length:=by
  rw[ByteArray.data_extract]
  simp
 rw[this]
theorem Qs{s p:ByteArray}(h:s.size<p.size):p.toList.isPrefixOf s.toList=false:=by
 rw[EL,ByteArray.toList_eq,ByteArray.toList_eq]
 rw[beq_eq_false_iff_ne]
 intro e
 have:=congrArg List.length e
 simp at this
 omega
theorem Hd(s p:ByteArray)(h:AL):CallsH Tryz.prog 113 #[.string s,.string p] h fun r h'=>r=.returned (.bool (p.toList.isPrefixOf s.toList))∧h'=h:=by
 refine AY ⟨Tryz.prog,113,Tryz.f113,18,[0,1,4],_⟩ (args:=[_,_]) Tryz.func113 rfl Tryz.ntmps113 (by simp) ?_
 by_cases hle:((p.size:Int)≤(s.size:Int))
 ·simp only[Aa,↓Bl,simprocAttr,hle]
  rw[ME (by omega)]
 ·simp only[Aa,↓Bl,simprocAttr,hle]
  rw[Qs (by omega)]
theorem Fl(s p:ByteArray)(h:AL)(Q:Ending→AL→Prop):Ap Tryz.prog 113 #[.string s,.string p] h Q=Q (.returned (.bool (p.toList.isPrefixOf s.toList))) (h):=Ap.exact (by kernel_rfl) (Hd s p h)
theorem Cc(s p:ByteArray)(A_:AH):Ag Tryz.prog 113 #[.string s,.string p] A_=some (.bool (p.toList.isPrefixOf s.toList)):=C3 (by kernel_rfl) (by kernel_rfl) (fun h=>Hd s p h)
theorem Kh(s p:ByteArray)(h:AL):CallsH Tryz.prog 79 #[.string s,.string p] h fun r h'=>r=.returned (.bool (p.toList.isPrefixOf s.toList))∧h'=h:=by
 refine AY ⟨Tryz.prog,79,Tryz.f79,8,[0,1,4],_⟩ (args:=[_,_]) Tryz.func79 rfl Tryz.ntmps79 (by simp) ?_
 simp only[Aa,↓Bl,simprocAttr,Fl]
theorem Bh(s p:ByteArray)(h:AL)(Q:Ending→AL→Prop):Ap Tryz.prog 79 #[.string s,.string p] h Q=Q (.returned (.bool (p.toList.isPrefixOf s.toList))) (h):=Ap.exact (by kernel_rfl) (Kh s p h)
theorem C6(s p:ByteArray)(A_:AH):Ag Tryz.prog 79 #[.string s,.string p] A_=some (.bool (p.toList.isPrefixOf s.toList)):=C3 (by kernel_rfl) (by kernel_rfl) (fun h=>Kh s p h)
def CL(c:Nat):Bool:=decide (c=32)||decide (c=9)||decide (c=10)
def BX(c:Nat):Bool:=(decide (97≤c)&&decide (c≤122))||(decide (65≤c)&&decide (c≤90))
def Ae(c:Nat):Bool:=decide (48≤c)&&decide (c≤57)
def BG(c:Nat):Bool:=BX c||Ae c||decide (c=95)
def kj:List UInt8:=[40,41,123,125,44,59,58,61,60,62,43,45,42,37,46]
def Gb(c:Nat):Bool:=decide (c≤126)&&decide (0≤Lib.indexByte kj c.toUInt8)
def E7(c:Nat):Int:=
 if CL c=true then 1 else if BX c=true then 2 else if Ae c=true then 3 else if c=95 then 4 else if c=34 then 5 else if c=35 then 6 else if Gb c=true then 7 else 0
theorem NU(c:Nat)(hc:c<256)(h:AL):CallsH Tryz.prog 70 #[.int .i32 (c:Int)] h fun r h'=>r=.returned (.int .i64 (E7 c))∧h'=h:=by
 refine AY ⟨Tryz.prog,70,Tryz.f70,52,[0,2],_⟩ (args:=[_]) Tryz.func70 rfl Tryz.ntmps70 (by simp) ?_
 have e1:(ByteArray.mk #[40,41,123,125,44,59,58,61,60,62,43,45,42,37,46]).data.toList=kj:=rfl
 have e2:(0≤(c:Int))=True:=by simp
 have e4:c.toUInt8=Nat.toUInt8 c:=rfl
 by_cases hm:(c:Int)≤126
 ·have e3:((c:Int)<128)=True:=by simp;omega
  simp only[Aa,↓Bl,simprocAttr,Eg,e2,e3,hm,Int.toNat_natCast]
  simp only[Ending.returned.injEq,Value.int.injEq,true_and]
  clear e1 e2 e3 e4 h
  revert c
  decide+kernel
 ·simp only[Aa,↓Bl,simprocAttr,hm]
  simp only[Ending.returned.injEq,Value.int.injEq,true_and]
  clear e1 e2 e4 h
  revert c
  decide+kernel
theorem BV(c:Nat)(hc:c<256)(h:AL)(Q:Ending→AL→Prop):Ap Tryz.prog 70 #[.int .i32 (c:Int)] h Q=Q (.returned (.int .i64 (E7 c))) (h):=Ap.exact (by kernel_rfl) (NU c hc h)
theorem D1(c:Nat)(hc:c<256)(A_:AH):Ag Tryz.prog 70 #[.int .i32 (c:Int)] A_=some (.int .i64 (E7 c)):=C3 (by kernel_rfl) (by kernel_rfl) (fun h=>NU c hc h)
theorem Bj{s:ByteArray}{pos:Nat}{c:UInt8}{l:List UInt8}(h:s.toList.drop pos=c::l): ∃hp:pos<s.size,s[pos]'hp=c∧s.toList.drop (pos+1)=l∧s.size=pos+1+l.length∧s.data[pos]? =some c:=by
 have hn:s.size=s.data.toList.length:=rfl
 rw[ByteArray.toList_eq]at h⊢
 have hlen:(s.data.toList.drop pos).length=l.length+1:=by rw[h];rfl
 have hl2:=hlen
 rw[List.length_drop,←hn]at hl2
 have hp:pos<s.size:=by omega
 have h1:=List.drop_eq_getElem_cons (l:=s.data.toList) (i:=pos) (by omega)
 rw[h]at h1
 simp only[List.cons.injEq]at h1
 refine⟨hp, ?_,h1.2.symm,by omega, ?_⟩
 ·rw[h1.1];rfl
 ·rw[h1.1];simp
theorem CB{s:ByteArray}{pos:Nat}(h:s.toList.drop pos=[]): ¬pos<s.size:=by
 have hn:s.size=s.data.toList.length:=rfl
 rw[ByteArray.toList_eq]at h
 have:=congrArg List.length h
 rw[List.length_drop,←hn]at this
 simp only[List.length_nil]at this
 omega
theorem AP(s:ByteArray):s.toList.length=s.size:=by rw[ByteArray.toList_eq];rfl
def Ax:List UInt8→Nat
 | []=>0
 |c::l=>if BG c.toNat=true then Ax l+1 else 0
def Bi:Bool→List UInt8→Nat
 |_,[]=>0
 |r,c::l=>if(r||(CL c.toNat||decide (c.toNat=35)))=true then Bi ((r||decide (c.toNat=35))&& !decide (c.toNat=10)) l+1 else 0
theorem GV: ∀l:List UInt8,Ax l≤l.length
 | []=>Nat.le_refl _
 |c::l=>by
  have:=GV l
  simp only[Ax,List.length_cons]
  split<;>omega
theorem D8: ∀(r:Bool) (l:List UInt8),Bi r l≤l.length
 |_,[]=>Nat.le_refl _
 |r,c::l=>by
  have:=D8 ((r||decide (c.toNat=35))&& !decide (c.toNat=10)) l
  simp only[Bi,List.length_cons]
  split<;>omega
theorem CZ(c:UInt8):c.toNat<256:=c.toNat_lt
theorem Y5: ∀c,c<256→(E7 c==2||E7 c==3||E7 c==4)=BG c:=by decide+kernel
theorem SZ(c:Nat):(decide ((97:Int)≤(c:Int))&&decide ((c:Int)≤122)||decide ((65:Int)≤(c:Int))&&decide ((c:Int)≤90))=BX c:=by
 rw[Bool.eq_iff_iff];simp[BX];omega
theorem WB(c:Nat):(decide ((48:Int)≤(c:Int))&&decide ((c:Int)≤57))=Ae c:=by
 rw[Bool.eq_iff_iff];simp[Ae];omega
theorem Jc(c:UInt8)(h:AL):CallsH Tryz.prog 102 #[.int .u8 (c.toNat:Int)] h fun r h'=>r=.returned (.bool (BG c.toNat))∧h'=h:=by
 refine AY ⟨Tryz.prog,102,Tryz.f102,17,[0,2,3],_⟩ (args:=[_]) Tryz.func102 rfl Tryz.ntmps102 (by simp) ?_
 have hc:=CZ c
 have hw:IntKind.i32.wrap (c.toNat:Int)=c.toNat:=OA (by omega) (by omega)
 simp only[Aa,↓Bl,simprocAttr,BV,hw,hc]
 rw[Y5 c.toNat hc]
theorem ES(c:UInt8)(h:AL)(Q:Ending→AL→Prop):Ap Tryz.prog 102 #[.int .u8 (c.toNat:Int)] h Q=Q (.returned (.bool (BG c.toNat))) (h):=Ap.exact (by kernel_rfl) (Jc c h)
theorem Cr(c:UInt8)(A_:AH):Ag Tryz.prog 102 #[.int .u8 (c.toNat:Int)] A_=some (.bool (BG c.toNat)):=C3 (by kernel_rfl) (by kernel_rfl) (fun h=>Jc c h)
theorem D3{s:ByteArray}{i:Nat}(h:i<s.size): ∃c l,s.toList.drop i=c::l:=by
 cases hl:s.toList.drop i with
 |nil=>exact absurd h (CB hl)
 |cons c l=>exact⟨c,l,rfl⟩
theorem RW(s:ByteArray)(i:Nat)(hi:i≤s.size)(hs:s.size≤100000)(h:AL):CallsH Tryz.prog 71 #[.string s,.int .i64 (i:Int)] h fun r h'=>r=.returned (.string (s.extract i (i+Ax (s.toList.drop i))))∧h'=h:=by
 refine AY ⟨Tryz.prog,71,Tryz.f71,23,[0,1,4,5],_⟩ (args:=[_,_]) Tryz.func71 rfl Tryz.ntmps71 (by simp) ?_
 simp only[Aa,↓Bl,simprocAttr]
 obtain⟨e,he,h1,h2,h3⟩: ∃e:Nat,e=i∧i≤e∧e≤s.size∧i+Ax (s.toList.drop i)=e+Ax (s.toList.drop e):=⟨i,rfl,by omega,hi,rfl⟩
 rw[show(5,some (Value.int .i64 (i:Int)))=(5,some (Value.int .i64 (e:Int))) by rw[he]]
 clear he
 generalize hl:s.toList.drop e=l at h3
 induction l generalizing e with
 |nil=>
  have hlt:((e:Int)<(s.size:Int))=False:=by have:=CB hl;simp;omega
  have hle:((i:Int)≤(e:Int))=True:=by simp;omega
  have hle2:((e:Int)≤(s.size:Int))=True:=by simp;omega
  refine Au.intro ?_
  simp only[Aa,↓Bl,simprocAttr,hlt,hle,hle2]
  rw[h3]
  rfl
 | cons c l ih=>
  obtain⟨hp,hc,hl',hsl,hb⟩:=Bj hl
  have hlt:((e:Int)<(s.size:Int))=True:=by simp;omega
  have hle:((i:Int)≤(e:Int))=True:=by simp;omega
  have hle2:((e:Int)≤(s.size:Int))=True:=by simp;omega
  have we:IntKind.i64.wrap ((e:Int)+1)=((e+1:Nat):Int):=by rw[AW (by omega) (by omega)];omega
  refine Au.intro ?_
  simp only[Ax]at h3
  cases hw:BG c.toNat with
  |true=>
   rw[if_pos hw]at h3
   simp only[Aa,↓Bl,simprocAttr,ES,hlt,hb,we,hw]
   exact Au.weak (ih (e+1) (by omega) (by omega) hl' (by omega)) (by simp[Ah,AO])
  |false=>
   rw[if_neg (by simp[hw])]at h3
   simp only[Aa,↓Bl,simprocAttr,ES,hlt,hb,we,hw,hle,hle2]
   rw[h3]
   rfl
theorem E0(s:ByteArray)(i:Nat)(hi:i≤s.size)(hs:s.size≤100000)(h:AL)(Q:Ending→AL→Prop):Ap Tryz.prog 71 #[.string s,.int .i64 (i:Int)] h Q=Q (.returned (.string (s.extract i (i+Ax (s.toList.drop i))))) (h):=Ap.exact (by kernel_rfl) (RW s i hi hs h)
theorem E5(s:ByteArray)(i:Nat)(hi:i≤s.size)(hs:s.size≤100000)(A_:AH):Ag Tryz.prog 71 #[.string s,.int .i64 (i:Int)] A_=some (.string (s.extract i (i+Ax (s.toList.drop i)))):=C3 (by kernel_rfl) (by kernel_rfl) (fun h=>RW s i hi hs h)
theorem uj(c:Nat):((c:Int)==95)=decide (c=95):=by rw[Bool.eq_iff_iff];simp;omega
theorem U7: ∀l:List UInt8,Bi true l=if Lib.indexByte l 10= -1 then l.length else(Lib.indexByte l 10).toNat+Bi false (l.drop (Lib.indexByte l 10).toNat)
 | []=>by simp[Bi,Lib.indexByte]
 | c::l=>by
  have ih:=U7 l
  have hge:=Lib.indexByte_ge l 10
  by_cases hc:c=10
  ·subst hc
   simp[Bi,Lib.indexByte,CL]
  ·have h1:c.toNat≠10:=fun h=>hc (by apply UInt8.toNat.inj;exact h)
   simp only[Bi,Lib.indexByte,Bool.true_or,if_true,Bool.true_and,decide_eq_false h1,Bool.not_false,ih,beq_iff_eq,if_neg hc]
   by_cases h2:Lib.indexByte l 10= -1
   ·simp[h2]
   ·have h3:Lib.indexByte l 10+1≠ -1:=by omega
    have h4:(Lib.indexByte l 10+1).toNat=(Lib.indexByte l 10).toNat+1:=by omega
    simp only[h2,if_false,h3,h4,List.drop_succ_cons]
    omega
theorem cg{c:UInt8}(l:List UInt8)(hc:c.toNat=35):Bi false (c::l)=if Lib.indexByte (c::l) 10= -1 then(c::l).length else(Lib.indexByte (c::l) 10).toNat+Bi false ((c::l).drop (Lib.indexByte (c::l) 10).toNat):=by
 rw[←U7]
 simp[Bi,hc]
theorem CN(s:ByteArray)(i:Nat):(s.extract i s.size).toList=s.toList.drop i:=by
 rw[ByteArray.toList_eq,ByteArray.toList_eq,ByteArray.data_extract]
 simp
 rw[List.take_of_length_le]
 simp
theorem F1(s:ByteArray)(i:Nat):(s.extract i s.size).data.toList=s.toList.drop i:=by rw[←ByteArray.toList_eq,CN]
theorem Vs: ∀c,c<256→(E7 c=1∧CL c=true)∨(E7 c=6∧c=35∧CL c=false)∨(E7 c≠1∧E7 c≠6∧CL c=false∧c≠35):=by decide+kernel
theorem F5: ∀(l:List UInt8) (c:UInt8),Lib.indexByte l c<l.length∨l=[]
 | [],_=>.inr rfl
 | a::l,c=>by
  left
  simp only[Lib.indexByte]
  rcases F5 l c with h|h
  ·split
   ·simp
   ·split
    ·simp;omega
    ·simp;omega
  ·subst h;simp[Lib.indexByte];split<;>simp
theorem ck(s:ByteArray)(i:Nat)(hi:i≤s.size)(hs:s.size≤100000)(h:AL):CallsH Tryz.prog 46 #[.string s,.int .i64 (i:Int)] h fun r h'=>r=.returned (.int .i64 ((i+Bi false (s.toList.drop i):Nat):Int))∧h'=h:=by
 refine AY ⟨Tryz.prog,46,Tryz.f46,34,[0,1,4,5,14],_⟩ (args:=[_,_]) Tryz.func46 rfl Tryz.ntmps46 (by simp) ?_
 simp only[Aa,↓Bl,simprocAttr]
 obtain⟨e,he,h1,h2,h3⟩: ∃e:Nat,e=i∧i≤e∧e≤s.size∧i+Bi false (s.toList.drop i)=e+Bi false (s.toList.drop e):=⟨i,rfl,by omega,hi,rfl⟩
 rw[show(1,some (Value.int .i64 (i:Int)))=(1,some (Value.int .i64 (e:Int))) by rw[he]]
 clear he
 obtain⟨m,hm⟩: ∃m,s.size - e≤m:=⟨_,Nat.le_refl _⟩
 induction m generalizing e with
 |zero=>
  have hlt:((e:Int)<(s.size:Int))=False:=by simp;omega
  refine Au.intro ?_
  simp only[Aa,↓Bl,simprocAttr,hlt]
  rw[h3,List.drop_of_length_le (by rw[AP];omega)]
  rfl
 | succ m ih=>
  cases hl:s.toList.drop e with
  |nil=>
   have hlt:((e:Int)<(s.size:Int))=False:=by have:=CB hl;simp;omega
   refine Au.intro ?_
   simp only[Aa,↓Bl,simprocAttr,hlt]
   rw[h3,hl]
   rfl
  | cons c l=>
   obtain⟨hp,hc,hl',hsl,hb⟩:=Bj hl
   have hlt:((e:Int)<(s.size:Int))=True:=by simp;omega
   have hle2:((e:Int)≤(s.size:Int))=True:=by simp;omega
   have he0:(0≤(e:Int))=True:=by simp
   have we:IntKind.i64.wrap ((e:Int)+1)=((e+1:Nat):Int):=by rw[AW (by omega) (by omega)];omega
   have w32:IntKind.i32.wrap (c.toNat:Int)=c.toNat:=OA (by have:=CZ c;omega) (by have:=CZ c;omega)
   have hcl:=CZ c
   refine Au.intro ?_
   rw[hl]at h3
   rcases Vs c.toNat hcl with⟨k1,k2⟩|⟨k1,k2,k3⟩|⟨k1,k2,k3,k4⟩
   ·have k4:c.toNat≠35:=by intro h;rw[h]at k2;cases k2
    simp only[Bi,k2,Bool.false_or,Bool.true_or,if_true,decide_eq_false k4,Bool.false_and]at h3
    simp only[Aa,↓Bl,simprocAttr,C7,BV,hlt,hb,w32,hcl,k1,we]
    exact Au.weak (ih (e+1) (by omega) (by omega) (by rw[hl'];omega) (by omega)) (by simp[Ah,AO])
   ·rw [cg l k2]at h3
    have hx:=Lib.indexByte_ge (c::l) 10
    rcases F5 (c::l) 10 with hy|hy
    rotate_left
    ·cases hy
    rw[←hl]at h3 hx hy
    simp only[Aa,↓Bl,simprocAttr,C7,BV,hlt,hb,w32,hcl,k1,we,hle2,he0,F1,show Nat.toUInt8 10=10 from rfl]
    by_cases hz:Lib.indexByte (s.toList.drop e) 10<0
    ·simp only[simprocAttr,hz]
     rw[if_pos (by omega),List.length_drop,AP]at h3
     have:e+(s.size - e)=s.size:=by omega
     rw[h3,this]
    ·simp only[simprocAttr,hz]
     rw[if_neg (by omega),List.drop_drop]at h3
     have hy2:Lib.indexByte (s.toList.drop e) 10<s.size - e:=by rw[List.length_drop,AP]at hy;omega
     obtain⟨q,hq⟩:=Int.eq_ofNat_of_zero_le (Int.not_lt.1 hz)
     rw[hq]at h3 hy2⊢
     have w2:IntKind.i64.wrap ((e:Int)+(q:Int))=((e+q:Nat):Int):=by rw[AW (by omega) (by omega)];omega
     simp only[simprocAttr,w2]
     have hq0:0<q:=by
      rcases Nat.eq_zero_or_pos q with h0|h0
      ·subst h0
       have:=(Lib.indexByte_some hq).1
       rw[hl]at this
       simp at this
       rw[this]at k2
       cases k2
      ·exact h0
     simp only[Int.toNat_natCast]at h3
     exact Au.weak (ih (e+q) (by omega) (by omega) (by omega) (by omega)) (by simp[Ah,AO])
   ·simp only[Aa,↓Bl,simprocAttr,C7,BV,hlt,hb,w32,hcl,k1,k2]
    simp only[Bi,k3,Bool.false_or,decide_eq_false k4,Bool.false_eq_true,if_false]at h3
    rw[h3]
    rfl
theorem PD(s:ByteArray)(i:Nat)(hi:i≤s.size)(hs:s.size≤100000)(h:AL)(Q:Ending→AL→Prop):Ap Tryz.prog 46 #[.string s,.int .i64 (i:Int)] h Q=Q (.returned (.int .i64 ((i+Bi false (s.toList.drop i):Nat):Int))) (h):=Ap.exact (by kernel_rfl) (ck s i hi hs h)
theorem H2(s:ByteArray)(i:Nat)(hi:i≤s.size)(hs:s.size≤100000)(A_:AH):Ag Tryz.prog 46 #[.string s,.int .i64 (i:Int)] A_=some (.int .i64 ((i+Bi false (s.toList.drop i):Nat):Int)):=C3 (by kernel_rfl) (by kernel_rfl) (fun h=>ck s i hi hs h)
theorem ig(c k:Nat):((c:Int)==(k:Int))=decide (c=k):=by rw[Bool.eq_iff_iff];simp only[beq_iff_eq,decide_eq_true_eq];omega
def BW:List UInt8→Nat→Nat
 | [],a=>a
 |c::l,a=>BW l (10*a+(c.toNat - 48))
theorem UA(l:List UInt8)(a:Nat):a≤BW l a:=by
 induction l generalizing a with
 |nil=>rw[BW];omega
 |cons c l ih=>
  have:=ih (10*a+(c.toNat - 48))
  rw[BW]
  omega
def DM(w:List UInt8):Bool:=w.all fun c=>Ae c.toNat
def Ni(w:List UInt8):Bool:=decide (1<w.length)&&decide (w.head? =some 48)
def EM(w:List UInt8):Int×Int:=
 if DM w=false then(0,2)else if Ni w=true then(0,2)else if 9007199254740992<BW w 0 then(0,4)else((BW w 0:Nat),0)
theorem Bm{c:Nat}(h:Ae c=true):48≤c∧c≤57:=by simpa[Ae]using h
theorem Vt: ∀c,c<256→(E7 c=3∧Ae c=true)∨(E7 c≠3∧Ae c=false):=by decide+kernel
theorem QD{w:List UInt8}(h:DM w=true){i:Nat}{c:UInt8}{l:List UInt8}(hd:w.drop i=c::l):Ae c.toNat=true:=by
 simp only[DM,List.all_eq_true]at h
 exact h c (List.mem_of_mem_drop (by rw[hd];exact List.mem_cons_self ..))
theorem CV(c:UInt8)(l:List UInt8):DM (c::l)=(Ae c.toNat&&DM l):=rfl
theorem Qh(s:ByteArray)(h0:0<s.size)(hs:s.size≤100000)(h:AL):CallsH Tryz.prog 80 #[.string s] h fun r h'=>r=.returned (.tuple #[.int .i64 (EM s.toList).1,.int .i64 (EM s.toList).2])∧h'=h:=by
 refine AY ⟨Tryz.prog,80,Tryz.f80,44,[0,2,3,4,5,6,8,9,28,29],_⟩ (args:=[_]) Tryz.func80 rfl Tryz.ntmps80 (by simp) ?_
 simp only[Aa,↓Bl,simprocAttr]
 obtain⟨e,he,h1,h3⟩: ∃(e:Nat),e=0∧e≤s.size∧DM s.toList=DM (s.toList.drop e):=⟨0,rfl,by omega,rfl⟩
 rw[show(9,some (Value.int .i64 0))=(9,some (Value.int .i64 (e:Int))) by rw[he];rfl]
 clear he
 generalize hl:s.toList.drop e=l at h3
 induction l generalizing e with
 | nil=>
  have hlt:((e:Int)<(s.size:Int))=False:=by have:=CB hl;simp;omega
  have hA:DM s.toList=true:=by rw[h3];rfl
  obtain⟨c0,l0,hl0⟩:=D3 h0
  obtain⟨_,_,_,hsl0,hb0⟩:=Bj hl0
  have c48:((c0.toNat:Int)==48)=decide (c0.toNat=48):=ig c0.toNat 48
  have hlead:Ni s.toList=(decide (1<(s.size:Int))&&decide (c0.toNat=48)):=by
   simp only[List.drop_zero]at hl0
   have e1:(c0::l0).length=s.size:=by rw[←hl0];exact AP s
   rw[Bool.eq_iff_iff]
   simp only[Ni,hl0,e1,List.head?_cons,Option.some.injEq,Bool.and_eq_true,decide_eq_true_eq]
   constructor
   ·rintro⟨h1,h2⟩;rw[h2];exact⟨by omega,rfl⟩
   ·rintro⟨h1,h2⟩;exact⟨by omega,UInt8.toNat.inj h2⟩
  refine Au.intro ?_
  cases hL:Ni s.toList with
  |true=>
   rw[hL]at hlead
   have:=hlead.symm
   simp only[Bool.and_eq_true,decide_eq_true_eq]at this
   simp only[Aa,↓Bl,simprocAttr,hlt,hb0,this.1,this.2]
   simp only[EM,hA,hL,if_true,Bool.true_eq_false,if_false]
  | false=>
   rw[hL]at hlead
   have h48:(1<(s.size:Int))→ ¬c0.toNat=48:=by intro h1s h;simp[h1s,h]at hlead
   by_cases h1s:(1<(s.size:Int))
   ·have:=h48 h1s
    simp only[Aa,↓Bl,simprocAttr,hlt,hb0,c48,h1s,this]
    obtain⟨k,n,hk,hn,k1,k3,k4⟩: ∃(k n:Nat),k=0∧n=0∧k≤s.size∧BW s.toList 0=BW (s.toList.drop k) n∧n≤9007199254740992:=⟨0,0,rfl,rfl,by omega,rfl,by omega⟩
    rw[show(5,some (Value.int .i64 0))=(5,some (Value.int .i64 (n:Int))) by rw[hn];rfl,show(29,some (Value.int .i64 0))=(29,some (Value.int .i64 (k:Int))) by rw[hk];rfl]
    clear hk hn hl h1 hlt
    generalize hl:s.toList.drop k=l at k3
    induction l generalizing k n with
    |nil=>
     have hlt:((k:Int)<(s.size:Int))=False:=by have:=CB hl;simp;omega
     refine Au.intro ?_
     simp only[Aa,↓Bl,simprocAttr,hlt]
     rw[BW]at k3
     have k5: ¬(9007199254740992<n):=by omega
     simp only[EM,hA,hL,Bool.true_eq_false,Bool.false_eq_true,if_false,k3,k5]
    | cons c l ih=>
     obtain⟨hp,hc,hl',hsl,hb⟩:=Bj hl
     have hlt:((k:Int)<(s.size:Int))=True:=by simp;omega
     have we:IntKind.i64.wrap ((k:Int)+1)=((k+1:Nat):Int):=by rw[AW (by omega) (by omega)];omega
     have hd:=Bm (QD hA hl)
     have w1:IntKind.u8.wrap ((c.toNat:Int) - 48)=((c.toNat - 48:Nat):Int):=by rw[KY (by omega) (by omega)];omega
     have w2:IntKind.i64.wrap ((c.toNat - 48:Nat):Int)=((c.toNat - 48:Nat):Int):=AW (by omega) (by omega)
     have w3:IntKind.i64.wrap (10*(n:Int))=((10*n:Nat):Int):=by rw[AW (by omega) (by omega)];omega
     have w4:IntKind.i64.wrap (((10*n:Nat):Int)+((c.toNat - 48:Nat):Int))=((10*n+(c.toNat - 48):Nat):Int):=by rw[AW (by omega) (by omega)];omega
     rw[BW]at k3
     refine Au.intro ?_
     by_cases hbig:(9007199254740992:Int)<((10*n+(c.toNat - 48):Nat):Int)
     ·simp only[Aa,↓Bl,simprocAttr,hlt,hb,w1,w2,w3,w4,hbig]
      have k5:9007199254740992<BW s.toList 0:=by have:=UA l (10*n+(c.toNat - 48));omega
      simp only[EM,hA,hL,if_true,Bool.true_eq_false,Bool.false_eq_true,if_false,k5]
     ·simp only[Aa,↓Bl,simprocAttr,hlt,hb,w1,w2,w3,w4,we,hbig]
      exact Au.weak (ih (k+1) (10*n+(c.toNat - 48)) (by omega) (by omega) hl' k3) (by simp[Ah,AO])
   ·simp only[Aa,↓Bl,simprocAttr,hlt,h1s]
    obtain⟨k,n,hk,hn,k1,k3,k4⟩: ∃(k n:Nat),k=0∧n=0∧k≤s.size∧BW s.toList 0=BW (s.toList.drop k) n∧n≤9007199254740992:=⟨0,0,rfl,rfl,by omega,rfl,by omega⟩
    rw[show(5,some (Value.int .i64 0))=(5,some (Value.int .i64 (n:Int))) by rw[hn];rfl,show(29,some (Value.int .i64 0))=(29,some (Value.int .i64 (k:Int))) by rw[hk];rfl]
    clear hk hn hl h1 hlt
    generalize hl:s.toList.drop k=l at k3
    induction l generalizing k n with
    |nil=>
     have hlt:((k:Int)<(s.size:Int))=False:=by have:=CB hl;simp;omega
     refine Au.intro ?_
     simp only[Aa,↓Bl,simprocAttr,hlt]
     rw[BW]at k3
     have k5: ¬(9007199254740992<n):=by omega
     simp only[EM,hA,hL,Bool.true_eq_false,Bool.false_eq_true,if_false,k3,k5]
    | cons c l ih=>
     obtain⟨hp,hc,hl',hsl,hb⟩:=Bj hl
     have hlt:((k:Int)<(s.size:Int))=True:=by simp;omega
     have we:IntKind.i64.wrap ((k:Int)+1)=((k+1:Nat):Int):=by rw[AW (by omega) (by omega)];omega
     have hd:=Bm (QD hA hl)
     have w1:IntKind.u8.wrap ((c.toNat:Int) - 48)=((c.toNat - 48:Nat):Int):=by rw[KY (by omega) (by omega)];omega
     have w2:IntKind.i64.wrap ((c.toNat - 48:Nat):Int)=((c.toNat - 48:Nat):Int):=AW (by omega) (by omega)
     have w3:IntKind.i64.wrap (10*(n:Int))=((10*n:Nat):Int):=by rw[AW (by omega) (by omega)];omega
     have w4:IntKind.i64.wrap (((10*n:Nat):Int)+((c.toNat - 48:Nat):Int))=((10*n+(c.toNat - 48):Nat):Int):=by rw[AW (by omega) (by omega)];omega
     rw[BW]at k3
     refine Au.intro ?_
     by_cases hbig:(9007199254740992:Int)<((10*n+(c.toNat - 48):Nat):Int)
     ·simp only[Aa,↓Bl,simprocAttr,hlt,hb,w1,w2,w3,w4,hbig]
      have k5:9007199254740992<BW s.toList 0:=by have:=UA l (10*n+(c.toNat - 48));omega
      simp only[EM,hA,hL,if_true,Bool.true_eq_false,Bool.false_eq_true,if_false,k5]
     ·simp only[Aa,↓Bl,simprocAttr,hlt,hb,w1,w2,w3,w4,we,hbig]
      exact Au.weak (ih (k+1) (10*n+(c.toNat - 48)) (by omega) (by omega) hl' k3) (by simp[Ah,AO])
 | cons c l ih=>
  obtain⟨hp,hc,hl',hsl,hb⟩:=Bj hl
  have hlt:((e:Int)<(s.size:Int))=True:=by simp;omega
  have we:IntKind.i64.wrap ((e:Int)+1)=((e+1:Nat):Int):=by rw[AW (by omega) (by omega)];omega
  have hcl:=CZ c
  have w32:IntKind.i32.wrap (c.toNat:Int)=c.toNat:=OA (by omega) (by omega)
  rw[CV]at h3
  refine Au.intro ?_
  rcases Vt c.toNat hcl with⟨k1,k2⟩|⟨k1,k2⟩
  ·rw[k2,Bool.true_and]at h3
   simp only[Aa,↓Bl,simprocAttr,BV,hlt,hb,w32,hcl,k1,we]
   exact Au.weak (ih (e+1) (by omega) hl' h3) (by simp[Ah,AO])
  ·rw[k2,Bool.false_and]at h3
   simp only[Aa,↓Bl,simprocAttr,BV,hlt,hb,w32,hcl,k1,we]
   simp only[EM,h3,if_true]
theorem Jg(s:ByteArray)(h0:0<s.size)(hs:s.size≤100000)(h:AL)(Q:Ending→AL→Prop):Ap Tryz.prog 80 #[.string s] h Q=Q (.returned (.tuple #[.int .i64 (EM s.toList).1,.int .i64 (EM s.toList).2])) (h):=Ap.exact (by kernel_rfl) (Qh s h0 hs h)
theorem Es(s:ByteArray)(h0:0<s.size)(hs:s.size≤100000)(A_:AH):Ag Tryz.prog 80 #[.string s] A_=some (.tuple #[.int .i64 (EM s.toList).1,.int .i64 (EM s.toList).2]):=C3 (by kernel_rfl) (by kernel_rfl) (fun h=>Qh s h0 hs h)
def J6(c:UInt8):Bool:=decide (c.toNat<32)||decide (126<c.toNat)
def Ci:List UInt8→Option Nat
 | []=>none
 |c::l=>if c.toNat=34 then some 0 else if J6 c=true then none else match Ci l with|some k=>some (k+1)|none=>none
def JZ(l:List UInt8):Bool:=l.all fun c=> !J6 c
theorem GJ: ∀l:List UInt8,Ci l=if Lib.indexByte l 34<0 then none else if JZ (l.take (Lib.indexByte l 34).toNat)=true then some (Lib.indexByte l 34).toNat else none
 | []=>by simp[Ci,Lib.indexByte]
 | c::l=>by
  have ih:=GJ l
  have hge:=Lib.indexByte_ge l 34
  by_cases hc:c=34
  ·subst hc
   simp[Ci,Lib.indexByte,JZ]
  ·have h1:c.toNat≠34:=fun h=>hc (by apply UInt8.toNat.inj;exact h)
   simp only[Ci,Lib.indexByte,h1,if_false,beq_iff_eq,hc,ih]
   by_cases h2:Lib.indexByte l 34= -1
   ·simp[h2]
   ·have h3: ¬Lib.indexByte l 34+1<0:=by omega
    have h4:(Lib.indexByte l 34+1).toNat=(Lib.indexByte l 34).toNat+1:=by omega
    have h5: ¬Lib.indexByte l 34<0:=by omega
    simp only[h2,if_false,h3,h4,h5,List.take_succ_cons,JZ,List.all_cons]
    cases J6 c<;>simp
    split<;>simp_all
def Hs(s:ByteArray):ByteArray×Int:=match Ci (s.toList.drop 1)with|none=>(⟨#[]⟩,2)|some k=>if 100<k then(⟨#[]⟩,3)else(s.extract 1 (1+k),0)
theorem Np(s:ByteArray)(h0:0<s.size)(hs:s.size≤100000)(h:AL):CallsH Tryz.prog 81 #[.string s] h fun r h'=>r=.returned (.tuple #[.string (Hs s).1,.int .i64 (Hs s).2])∧h'=h:=by
 refine AY ⟨Tryz.prog,81,Tryz.f81,36,[0,2,3,4,5,6,17,18],_⟩ (args:=[_]) Tryz.func81 rfl Tryz.ntmps81 (by simp) ?_
 have h1:((1:Int)≤(s.size:Int))=True:=by simp;omega
 simp only[Aa,↓Bl,simprocAttr,C7,h1,F1,show Nat.toUInt8 34=34 from rfl]
 by_cases hz:Lib.indexByte (s.toList.drop 1) 34<0
 ·rw[if_pos hz]
  simp only[Hs,GJ,hz,if_true]
 rw[if_neg hz]
 obtain⟨k,hk⟩:=Int.eq_ofNat_of_zero_le (Int.not_lt.1 hz)
 have hkl:k+1<s.size:=by
  have h3:=F5 (s.toList.drop 1) 34
  rw[hk,List.length_drop,AP]at h3
  rcases h3 with h3|h3
  ·omega
  ·rw[h3]at hk;simp[Lib.indexByte]at hk
 have hlit:Ci (s.toList.drop 1)=if JZ ((s.toList.drop 1).take k)=true then some k else none:=by
  rw[GJ,if_neg hz,hk]
  simp
 rw[hk]
 have w1:IntKind.i64.wrap (1+(k:Int))=((1+k:Nat):Int):=by rw[AW (by omega) (by omega)];omega
 rw[w1]
 have hx:(s.extract 1 (1+k)).toList=(s.toList.drop 1).take k:=by
  rw[ByteArray.toList_eq,ByteArray.toList_eq,ByteArray.data_extract]
  simp
 have hxs:(s.extract 1 (1+k)).size=k:=by simp;omega
 refine⟨⟨by omega,by omega⟩, ?_⟩
 simp only[Int.toNat_natCast]
 rw[hxs]
 rw[←hx]at hlit
 generalize hxe:s.extract 1 (1+k)=x at*
 obtain⟨e,he,g1,g2⟩: ∃(e:Nat),e=0∧e≤x.size∧JZ x.toList=JZ (x.toList.drop e):=⟨0,rfl,by omega,rfl⟩
 rw[show(18,some (Value.int .i64 0))=(18,some (Value.int .i64 (e:Int))) by rw[he];rfl]
 clear he
 generalize hl:x.toList.drop e=l at g2
 induction l generalizing e with
 | nil=>
  have hlt:((e:Int)<(k:Int))=False:=by have:=CB hl;simp;omega
  have hG:JZ x.toList=true:=by rw[g2];rfl
  rw[hG]at hlit
  refine Au.intro ?_
  simp only[Aa,↓Bl,simprocAttr,hlt]
  rw[if_pos rfl]at hlit
  rw[hxs]
  have h100:(100<k)=(100<(k:Int)):=by simp;omega
  split
  ·rename_i h5
   simp only[Hs,hlit,h100,h5,if_true]
  ·rename_i h5
   simp only[Hs,hlit,h100,h5,if_false,hxe]
 | cons c l ih=>
  obtain⟨hp,hc,hl',hsl,hb⟩:=Bj hl
  have hlt:((e:Int)<(k:Int))=True:=by simp;omega
  have we:IntKind.i64.wrap ((e:Int)+1)=((e+1:Nat):Int):=by rw[AW (by omega) (by omega)];omega
  simp only[JZ,List.all_cons]at g2
  refine Au.intro ?_
  cases hbad:J6 c with
  | true=>
   rw[hbad,Bool.not_true,Bool.false_and]at g2
   simp only[J6,Bool.or_eq_true,decide_eq_true_eq]at hbad
   have hi:((c.toNat:Int)<32∨126<(c.toNat:Int))=True:=by simp;omega
   have hg:JZ x.toList=false:=g2
   rw[hg,if_neg (by decide)]at hlit
   by_cases b1:(c.toNat:Int)<32
   ·simp only[Aa,↓Bl,simprocAttr,hlt,hb,b1]
    simp only[Hs,hlit]
   ·have b2:126<(c.toNat:Int):=by omega
    simp only[Aa,↓Bl,simprocAttr,hlt,hb,b1,b2]
    simp only[Hs,hlit]
  |false=>
   rw[hbad,Bool.not_false,Bool.true_and]at g2
   have:=ih (e+1) (by omega) hl' g2
   simp only[J6,Bool.or_eq_false_iff,decide_eq_false_iff_not]at hbad
   have b1: ¬(c.toNat:Int)<32:=by omega
   have b2: ¬126<(c.toNat:Int):=by omega
   simp only[Aa,↓Bl,simprocAttr,hlt,hb,b1,b2,we]
   exact Au.weak this (by simp[Ah,AO])
theorem F6(s:ByteArray)(h0:0<s.size)(hs:s.size≤100000)(h:AL)(Q:Ending→AL→Prop):Ap Tryz.prog 81 #[.string s] h Q=Q (.returned (.tuple #[.string (Hs s).1,.int .i64 (Hs s).2])) (h):=Ap.exact (by kernel_rfl) (Np s h0 hs h)
theorem D5(s:ByteArray)(h0:0<s.size)(hs:s.size≤100000)(A_:AH):Ag Tryz.prog 81 #[.string s] A_=some (.tuple #[.string (Hs s).1,.int .i64 (Hs s).2]):=C3 (by kernel_rfl) (by kernel_rfl) (fun h=>Np s h0 hs h)
structure LR where
 k:Int
 t:ByteArray
 n:Int
 a:Nat
 nx:Nat
 e:Int
def LR.cells(r:LR):List Value:=[.int .i64 r.k,.string r.t,.int .i64 r.n,.int .i64 r.a]
def LR.val(r:LR):Value:=.tuple #[.agg #[.int .i64 r.k,.string r.t,.int .i64 r.n,.int .i64 r.a],.int .i64 r.nx,.int .i64 r.e]
def bad(e:Int):LR:=⟨0,⟨#[]⟩,0,0,0,e⟩
def Fg(s:ByteArray)(i:Nat):LR:=match Ci (s.toList.drop (i+1))with|none=>bad 2|some k=>if 100<k then bad 3 else⟨3,s.extract (i+1) (i+1+k),0,i,i+k+2,0⟩
def DJ(l:List UInt8):Bool:=List.isPrefixOf [33,61] l||List.isPrefixOf [60,61] l
def Al(s:ByteArray)(i:Nat):LR:=match s.toList.drop i with
 | []=>bad 2
 |c::l=>
  if DJ (c::l)=true then⟨4,s.extract i (i+2),0,i,i+2,0⟩
  else if BX c.toNat=true then(if 16<Ax (c::l)then bad 3 else⟨1,s.extract i (i+Ax (c::l)),0,i,i+Ax (c::l),0⟩)
  else if Ae c.toNat=true then(if(EM (s.extract i (i+Ax (c::l))).toList).2≠0 then bad (EM (s.extract i (i+Ax (c::l))).toList).2 else⟨2,⟨#[]⟩,(EM (s.extract i (i+Ax (c::l))).toList).1,i,i+Ax (c::l),0⟩)
  else if c.toNat=34 then Fg s i
  else if Gb c.toNat=true then⟨4,s.extract i (i+1),0,i,i+1,0⟩else bad 2
theorem fX: ∀c,c<256→(E7 c=2∧BX c=true∧BG c=true)∨(E7 c=3∧BX c=false∧Ae c=true∧BG c=true)∨(E7 c=5∧BX c=false∧Ae c=false∧c=34)∨
  (E7 c=7∧BX c=false∧Ae c=false∧c≠34∧Gb c=true)∨(E7 c≠2∧E7 c≠3∧E7 c≠5∧E7 c≠7∧BX c=false∧Ae c=false∧c≠34∧Gb c=false):=by decide+kernel
theorem Hp(a b c:UInt8)(l:List UInt8):List.isPrefixOf [a,b] (c::l)=true→c=a∧l.head? =some b∧0<l.length:=by
 intro h
 simp only[List.isPrefixOf,Bool.and_eq_true,beq_iff_eq]at h
 cases l with
 |nil=>simp[List.isPrefixOf]at h
 |cons d l=>simp[List.isPrefixOf]at h;simp[h.1,h.2]
theorem gr(s:ByteArray)(i k:Nat)(h:i+1+k≤s.size):(s.extract i s.size).extract 1 (1+k)=s.extract (i+1) (i+1+k):=by
 rw[ByteArray.extract_extract]
 congr 1
 omega
theorem No(s:ByteArray)(i:Nat)(hi:i<s.size):(Hs (s.extract i s.size)=(⟨#[]⟩,2)∧Fg s i=bad 2)∨(Hs (s.extract i s.size)=(⟨#[]⟩,3)∧Fg s i=bad 3)∨
  ∃k,i+1+k<s.size∧Hs (s.extract i s.size)=(s.extract (i+1) (i+1+k),0)∧Fg s i=⟨3,s.extract (i+1) (i+1+k),0,i,i+k+2,0⟩:=by
 have e1:(s.extract i s.size).toList.drop 1=s.toList.drop (i+1):=by rw[CN,List.drop_drop]
 unfold Hs Fg
 rw[e1]
 cases hk:Ci (s.toList.drop (i+1))with
 |none=>exact .inl ⟨rfl,rfl⟩
 | some k=>
  simp only
  have hlt:i+1+k<s.size:=by
   rw[GJ]at hk
   have h3:=F5 (s.toList.drop (i+1)) 34
   split at hk
   ·cases hk
   ·split at hk
    ·cases hk
     rename_i h4 _
     rcases h3 with h3|h3
     ·rw[List.length_drop,AP]at h3;omega
     ·rw[h3]at h4;simp[Lib.indexByte]at h4
    ·cases hk
  split
  ·exact .inr (.inl ⟨rfl,rfl⟩)
  ·exact .inr (.inr ⟨k,hlt,by rw[gr _ _ _ (by omega)],rfl⟩)
theorem G8(c:UInt8)(l:List UInt8):(ByteArray.mk #[33,61]).toList.isPrefixOf l=List.isPrefixOf [33,61] l:=by rw[ByteArray.toList_eq]
theorem HZ(c:UInt8)(l:List UInt8):(ByteArray.mk #[60,61]).toList.isPrefixOf l=List.isPrefixOf [60,61] l:=by rw[ByteArray.toList_eq]
theorem Ls(s:ByteArray)(i k:Nat)(h:i+k≤s.size):(s.extract i (i+k)).size=k:=by simp;omega
theorem L0(s:ByteArray)(i:Nat)(hi:i<s.size)(hs:s.size≤100000)(h:AL):CallsH Tryz.prog 47 #[.string s,.int .i64 (i:Int)] h fun r h'=>r=.returned ((Al s i).val)∧Grew h h':=by
 refine AY ⟨Tryz.prog,47,Tryz.f47,107,[0,1,4,5,6,7,8,9,10,11,12,36],_⟩ (args:=[_,_]) Tryz.func47 rfl Tryz.ntmps47 (by simp) ?_
 obtain⟨c,l,hl⟩:=D3 hi
 obtain⟨hp,hc,hl',hsl,hb⟩:=Bj hl
 have hcl:=CZ c
 have w32:IntKind.i32.wrap (c.toNat:Int)=c.toNat:=OA (by omega) (by omega)
 have hle1:((i:Int)≤(s.size:Int))=True:=by simp;omega
 have hle0:((0:Int)≤(i:Int))=True:=by simp
 have w1:IntKind.i64.wrap ((i:Int)+1)=((i+1:Nat):Int):=by rw[AW (by omega) (by omega)];omega
 have w2:IntKind.i64.wrap ((i:Int)+2)=((i+2:Nat):Int):=by rw[AW (by omega) (by omega)];omega
 have hle3:((i+1:Nat):Int)≤(s.size:Int):=by omega
 have hle4:((i:Int)≤((i+1:Nat):Int))=True:=by simp;omega
 have hle5:((i:Int)≤((i+2:Nat):Int))=True:=by simp;omega
 have hwl:i+Ax (c::l)≤s.size:=by have:=GV (c::l);simp only[List.length_cons]at this;omega
 have hws:=Ls s i (Ax (c::l)) hwl
 have ww:IntKind.i64.wrap ((i:Int)+(Ax (c::l):Int))=((i+Ax (c::l):Nat):Int):=by rw[AW (by omega) (by omega)];omega
 have hi':i≤s.size:=by omega
 by_cases hA:List.isPrefixOf [33,61] (c::l)=true
 ·have h2:((i+2:Nat):Int)≤(s.size:Int):=by have:=Hp _ _ _ _ hA;omega
  simp only[Aa,↓Bl,simprocAttr,Bh,BV,hle1,hle0,hb,w32,hcl,CN,hl,G8 c,hA,w2,h2,hle5]
  simp only[Al,hl,DJ,hA,Bool.true_or,if_true]
  exact⟨rfl,.push _ _⟩
 have hA':List.isPrefixOf [33,61] (c::l)=false:=Bool.eq_false_iff.2 hA
 by_cases hB:List.isPrefixOf [60,61] (c::l)=true
 ·have h2:((i+2:Nat):Int)≤(s.size:Int):=by have:=Hp _ _ _ _ hB;omega
  simp only[Aa,↓Bl,simprocAttr,Bh,BV,hle1,hle0,hb,w32,hcl,CN,hl,G8 c,HZ c,hA',hB,w2,h2,hle5]
  simp only[Al,hl,DJ,hA,hB,Bool.or_true,if_true]
  exact⟨rfl,.push _ _⟩
 have hB':List.isPrefixOf [60,61] (c::l)=false:=Bool.eq_false_iff.2 hB
 rcases fX c.toNat hcl with⟨k0,k1,k2⟩|⟨k0,k1,k2,k3⟩|⟨k0,k1,k2,k3⟩|⟨k0,k1,k2,k3,k4⟩|⟨k0,j1,j2,j3,k1,k2,k3,k4⟩
 ·have h16:(16<Ax (c::l))=(16<(Ax (c::l):Int)):=by simp;omega
  by_cases h5:16<(Ax (c::l):Int)
  ·simp only[Aa,↓Bl,simprocAttr,Bh,BV,E0,hle1,hle0,hb,w32,hcl,CN,hl,G8 c,HZ c,hA',hB',k0,hi',hs,hws,h5]
   simp only[Al,hl,DJ,hA',hB',k1,Bool.or_false,Bool.false_eq_true,if_true,if_false,h16,h5]
   exact⟨rfl,.push _ _⟩
  ·simp only[Aa,↓Bl,simprocAttr,Bh,BV,E0,hle1,hle0,hb,w32,hcl,CN,hl,G8 c,HZ c,hA',hB',k0,hi',hs,hws,h5,ww]
   simp only[Al,hl,DJ,hA',hB',k1,Bool.or_false,Bool.false_eq_true,if_true,if_false,h16,h5]
   exact⟨rfl,.push _ _⟩
 ·have hw0:0<Ax (c::l):=by simp[Ax,k3]
  have hz:0<(s.extract i (i+Ax (c::l))).size:=by omega
  have hz2:Ax (c::l)≤100000:=by omega
  by_cases h5:(EM (s.extract i (i+Ax (c::l))).toList).2=0
  ·simp only[Aa,↓Bl,simprocAttr,Bh,BV,E0,Jg,hle1,hle0,hb,w32,hcl,CN,hl,G8 c,HZ c,hA',hB',k0,hi',hs,hw0,hz2,h5,ww,hws]
   simp only[Al,hl,DJ,hA',hB',k1,k2,Bool.or_false,Bool.false_eq_true,if_true,if_false,h5,ne_eq,not_true_eq_false]
   exact⟨rfl,.push _ _⟩
  ·simp only[Aa,↓Bl,simprocAttr,Bh,BV,E0,Jg,hle1,hle0,hb,w32,hcl,CN,hl,G8 c,HZ c,hA',hB',k0,hi',hs,hw0,hz2,h5,ww,hws]
   simp only[Al,hl,DJ,hA',hB',k1,k2,Bool.or_false,Bool.false_eq_true,if_true,if_false,h5,ne_eq,not_false_eq_true]
   exact⟨rfl,.push _ _⟩
 ·have hx0:0<(s.extract i s.size).size:=by simp;omega
  have hx1:(s.extract i s.size).size≤100000:=by simp;omega
  rcases No s i hi with⟨h5,h6⟩|⟨h5,h6⟩|⟨k,h4,h5,h6⟩
  ·simp only[Aa,↓Bl,simprocAttr,Bh,BV,F6,hle1,hle0,hb,w32,hcl,CN,hl,G8 c,HZ c,hA',hB',k0,hx0,hx1,h5]
   simp only[Al,hl,DJ,hA',hB',k3,Bool.or_false,Bool.false_eq_true,if_true,if_false,h6]
   exact⟨rfl,.push _ _⟩
  ·simp only[Aa,↓Bl,simprocAttr,Bh,BV,F6,hle1,hle0,hb,w32,hcl,CN,hl,G8 c,HZ c,hA',hB',k0,hx0,hx1,h5]
   simp only[Al,hl,DJ,hA',hB',k3,Bool.or_false,Bool.false_eq_true,if_true,if_false,h6]
   exact⟨rfl,.push _ _⟩
  ·have hk:=Ls s (i+1) k (by omega)
   have w5:IntKind.i64.wrap (IntKind.i64.wrap ((i:Int)+(k:Int))+2)=((i+k+2:Nat):Int):=by
    rw[AW (n:=(i:Int)+(k:Int)) (by omega) (by omega),AW (by omega) (by omega)];omega
   simp only[Aa,↓Bl,simprocAttr,Bh,BV,F6,hle1,hle0,hb,w32,hcl,CN,hl,G8 c,HZ c,hA',hB',k0,hx0,hx1,h5,hk,w5]
   simp only[Al,hl,DJ,hA',hB',k3,Bool.or_false,Bool.false_eq_true,if_true,if_false,h6]
   exact⟨rfl,.push _ _⟩
 ·simp only[Aa,↓Bl,simprocAttr,Bh,BV,hle1,hle0,hb,w32,hcl,CN,hl,G8 c,HZ c,hA',hB',k0,w1,hle3,hle4]
  simp only[Al,hl,DJ,hA',hB',k1,k2,k3,k4,Bool.or_false,Bool.false_eq_true,if_true,if_false]
  exact⟨rfl,.push _ _⟩
 ·simp only[Aa,↓Bl,simprocAttr,Bh,BV,hle1,hle0,hb,w32,hcl,CN,hl,G8 c,HZ c,hA',hB',k0,j1,j2,j3]
  simp only[Al,hl,DJ,hA',hB',k1,k2,k3,k4,Bool.or_false,Bool.false_eq_true,if_false]
  exact⟨rfl,.push _ _⟩
theorem Db(s:ByteArray)(i:Nat)(hi:i<s.size)(hs:s.size≤100000)(A_:AH):Ag Tryz.prog 47 #[.string s,.int .i64 (i:Int)] A_=some ((Al s i).val):=Oz (by kernel_rfl) (by kernel_rfl) (fun h=>L0 s i hi hs h)
def DS(s:ByteArray):LR:=⟨0,⟨#[]⟩,0,s.size,0,0⟩
def A9(s:ByteArray):Nat→Nat→Int×Nat×List LR
 |0,_=>(0,0,[])
 | f+1,i=>if s.size≤i then(0,0,[DS s])else if(Al s i).e≠0 then((Al s i).e,i,[])else
   ((A9 s f ((Al s i).nx+Bi false (s.toList.drop (Al s i).nx))).1,(A9 s f ((Al s i).nx+Bi false (s.toList.drop (Al s i).nx))).2.1,
    if(A9 s f ((Al s i).nx+Bi false (s.toList.drop (Al s i).nx))).1=0 then Al s i::(A9 s f ((Al s i).nx+Bi false (s.toList.drop (Al s i).nx))).2.2 else [])
def AG(s:ByteArray):Int×Nat×List LR:=if 4000<s.size then(3,0,[])else A9 s (s.size+1) (Bi false s.toList)
def Fh(l:List LR):List Value:=l.flatMap LR.cells
def ed(R:Int×Nat×List LR)(h:AL)(r:Ending)(h':AL):Prop:= ∃v,r=.returned (.tuple #[v,.int .i64 R.1,.int .i64 R.2.1])∧Du h' h.size 85 4 v R.2.2.length (Fh R.2.2)∧Grew h h'
theorem um:BP Tryz.prog 78 0 []=some (85,#[]):=by kernel_rfl
theorem uf(a b c d:Value):BP Tryz.prog 78 1 [(0,.agg #[a,b,c,d])]=some (85,#[a,b,c,d]):=by kernel_rfl
theorem DF(s:ByteArray)(i:Nat)(hi:i<s.size)(h0:(Al s i).e=0):i<(Al s i).nx∧(Al s i).nx≤s.size:=by
 obtain⟨c,l,hl⟩:=D3 hi
 obtain⟨hp,hc,hl',hsl,hb⟩:=Bj hl
 have hwl:i+Ax (c::l)≤s.size:=by have:=GV (c::l);simp only[List.length_cons]at this;omega
 revert h0
 unfold Al
 rw[hl]
 simp only
 split
 ·rename_i h1
  have:0<l.length:=by
   simp only[DJ,Bool.or_eq_true]at h1
   rcases h1 with h1|h1<;>exact(Hp _ _ _ _ h1).2.2
  intro _;simp only;omega
 split
 ·rename_i h1
  split
  ·intro h;cases h
  ·have:0<Ax (c::l):=by simp[Ax,BG,h1]
   intro _;simp only;omega
 split
 ·rename_i h1
  split
  ·intro h;rename_i h2;exact absurd h h2
  ·have:0<Ax (c::l):=by simp[Ax,BG,h1]
   intro _;simp only;omega
 split
 ·rcases No s i hi with⟨_,h6⟩|⟨_,h6⟩|⟨k,h4,_,h6⟩
  ·rw[h6];intro h;cases h
  ·rw[h6];intro h;cases h
  ·rw[h6];intro _;simp only;omega
 split
 ·intro _;simp only;omega
 ·intro h;cases h
theorem Fd(s:ByteArray)(i:Nat)(hi:i≤s.size):i+Bi false (s.toList.drop i)≤s.size:=by
 have:=D8 false (s.toList.drop i)
 rw[List.length_drop,AP]at this
 omega
def Ph(s:ByteArray)(R:Int×Nat×List LR)(acc:List LR)(m i:Nat):Prop:=s.size<i+m∧R=((A9 s m i).1,(A9 s m i).2.1,if(A9 s m i).1=0 then acc++(A9 s m i).2.2 else [])
theorem Ph.last{s:ByteArray}{R:Int×Nat×List LR}{acc:List LR}{m i:Nat}(h:Ph s R acc m i)(hi:i≤s.size)(hn: ¬i<s.size):R=(0,0,acc++[DS s]):=by
 obtain⟨h1,rfl⟩:=h
 cases m with
 |zero=>omega
 |succ m=>
  have:s.size≤i:=by omega
  simp[A9,this]
theorem Ph.err{s:ByteArray}{R:Int×Nat×List LR}{acc:List LR}{m i:Nat}(h:Ph s R acc m i)(hi:i<s.size)(he: ¬(Al s i).e=0):R=((Al s i).e,i,[]):=by
 obtain⟨h1,rfl⟩:=h
 cases m with
 |zero=>omega
 |succ m=>
  have: ¬s.size≤i:=by omega
  simp[A9,this,he]
theorem Ph.next{s:ByteArray}{R:Int×Nat×List LR}{acc:List LR}{m i:Nat}(h:Ph s R acc m i)(hi:i<s.size)(he:(Al s i).e=0): ∃m',m=m'+1∧Ph s R (acc++[Al s i]) m' ((Al s i).nx+Bi false (s.toList.drop (Al s i).nx)):=by
 obtain⟨h1,rfl⟩:=h
 cases m with
 |zero=>omega
 |succ m=>
  refine⟨m,rfl, ?_, ?_⟩
  ·have:=DF s i hi he;omega
  have: ¬s.size≤i:=by omega
  simp only[A9,this,if_false,he,ne_eq,not_true_eq_false]
  split<;>simp
theorem nr(s:ByteArray)(hs:s.size≤100000)(h:AL):CallsH Tryz.prog 23 #[.string s] h (ed (AG s) h):=by
 refine AY ⟨Tryz.prog,23,Tryz.f23,44,[0,2,3,4,5,6,7,8,9],_⟩ (args:=[_]) Tryz.func23 rfl Tryz.ntmps23 (by simp) ?_
 by_cases h4:(4000:Int)<(s.size:Int)
 ·simp only[Aa,↓Bl,simprocAttr,h4]
  have:4000<s.size:=by omega
  refine⟨.slice none 0 0, ?_, ?_,.refl _⟩
  ·simp only[AG,this,if_true];rfl
  ·simp only[AG,this,if_true];exact Du.nil ..
 have sk0: ∀h Q,Ap Tryz.prog 46 #[.string s,.int .i64 0] h Q=Q (.returned (.int .i64 ((Bi false s.toList:Nat):Int))) h:=fun h Q=>by
  have e:=PD s 0 (by omega) hs h Q
  simp only[List.drop_zero,Nat.zero_add]at e
  exact e
 simp only[Aa,↓Bl,simprocAttr,h4,um,sk0]
 clear sk0
 have hM:Ph s (AG s) [] (s.size+1) (Bi false s.toList):=by
  have: ¬4000<s.size:=by omega
  refine⟨by omega, ?_⟩
  simp only[AG,this,if_false,List.nil_append]
  split
  ·rfl
  ·rename_i h5
   have hz: ∀m i,(A9 s m i).1≠0→(A9 s m i).2.2=[]:=by
    intro m
    induction m with
    |zero=>intro i h;simp[A9]at h
    | succ m ih=>
     intro i
     simp only[A9]
     split
     ·intro h;simp at h
     ·split
      ·intro _;rfl
      ·intro h;simp only at h;simp only[h,if_false]
   rw[←hz _ _ h5]
 have hiz:Bi false s.toList≤s.size:=by have:=Fd s 0 (by omega);simpa using this
 have own:Du (h.push (.cells #[] 85)) h.size 85 4 (.slice (some ⟨h.size,0,none⟩) 0 0) ([]:List LR).length (Fh []):=
  Du.of (Nat.le_refl _) (by simp;rfl) (by simp) (by simp[maxLen]) (by simp) (by simp[Fh]) (by simp[Fh])
 have g2:Grew h (h.push (.cells #[] 85)):=.push _ _
 have hlen:([]:List LR).length≤Bi false s.toList:=by simp
 generalize hm:s.size+1=m at hM
 clear hm
 generalize Value.slice (some ⟨h.size,0,none⟩) 0 0=v at own⊢
 generalize Bi false s.toList=i at*
 generalize hacc:([]:List LR)=acc at own hM hlen
 clear hacc
 generalize h.push (.cells #[] 85)=h2 at*
 induction m generalizing v i acc h2 with
 |zero=>have:=hM.1;omega
 | succ m ih=>
  refine Au.intro ?_
  by_cases hlt:(i:Int)<(s.size:Int)
  ·simp only[Aa,↓Bl,simprocAttr,hlt]
   refine(L0 s i (by omega) hs h2).mono ?_
   rintro _ h3 ⟨rfl,g3⟩
   by_cases he:(Al s i).e=0
   ·simp only[Aa,↓Bl,simprocAttr,LR.val,he,uf]
    obtain⟨m',hm',hN⟩:=hM.next (by omega) he
    obtain rfl:m'=m:=by omega
    have hnx:=DF s i (by omega) he
    have g5:=((g2.trans g3).pushed (.cells (LR.cells (Al s i)).toArray 85))
    have own3:=((own.grew g3).grew (.push h3 (.cells (LR.cells (Al s i)).toArray 85))).grew (.push _ (.cells (LR.cells (Al s i)).toArray 85))
    refine N3 (news:=LR.cells (Al s i)) (m:=1) lB lJ rfl (by decide) own3 rfl (Uf _ _ (by simp) _ _ _) (by simp[LR.cells,Value.oneCell']) (by simp[maxLen];omega) (by omega) (by have:=g5.le;simp at this ⊢;omega) ?_
    intro v' h4' o' gB _
    have g4:Grew h h4':=gB.grew (g5.pushed _) own3.row
    have hnx':=hnx.2
    simp only[Aa,↓Bl,simprocAttr,PD,hnx',hs]
    refine Au.weak (ih v' _ (Fd s _ hnx') (acc++[Al s i]) hN ?_ h4' g4 ?_) (by simp[Ah,AO])
    ·simp;omega
    ·have e1:(acc++[Al s i]).length=acc.length+1:=by simp
     have e2:Fh (acc++[Al s i])=Fh acc++(Al s i).cells:=by simp[Fh]
     rw[e1,e2]
     exact o'
   ·simp only[Aa,↓Bl,simprocAttr,LR.val,he]
    have hR:=hM.err (by omega) he
    refine⟨.slice none 0 0, ?_, ?_, ?_⟩
    ·rw[hR]
    ·rw[hR];exact Du.nil ..
    ·exact(g2.trans g3).pushed _
  ·simp only[Aa,↓Bl,simprocAttr,hlt,uf]
   have hR:=hM.last hiz (by omega)
   have own3:=own.grew (.push h2 (.cells (LR.cells (DS s)).toArray 85))
   refine N3 (news:=LR.cells (DS s)) (m:=1) lB lJ rfl (by decide) own3 rfl (Uf _ _ (by simp) _ _ _) (by simp[LR.cells,Value.oneCell']) (by simp[maxLen];omega) (by omega) (by have:=g2.le;simp;omega) ?_
   intro v' h4' o' gB _
   have g4:Grew h h4':=gB.grew (g2.pushed _) own3.row
   simp only[Aa,↓Bl,simprocAttr]
   refine⟨v', ?_, ?_,g4⟩
   ·rw[hR];rfl
   ·have e1:(acc++[DS s]).length=acc.length+1:=by simp
    have e2:Fh (acc++[DS s])=Fh acc++(DS s).cells:=by simp[Fh]
    rw[hR,e1,e2]
    exact o'
end Go.Proofs.YtgmfcdeknaeikaaGreatDoor
