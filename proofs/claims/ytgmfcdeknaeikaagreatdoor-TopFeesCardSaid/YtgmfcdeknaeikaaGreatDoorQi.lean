/-
Digits, fractions, percentages of the program.
Conditions: none.
-/
import Derived.Test.YtgmfcdeknaeikaaGreatDoorQh
import Derived.Test.YtgmfcdeknaeikaaGreatDoorShelf
set_option linter.unusedSimpArgs false
set_option linter.unusedVariables false
set_option linter.defProp false
namespace Go.Proofs.YtgmfcdeknaeikaaGreatDoor
open Go.Vm
set_option maxHeartbeats 2000000
set_option maxRecDepth 20000
def du:=An @Cd (An @C8 (An @C9 (An @CM (An @Cc (An @C6 (An @D1 (An @Cr (An @E5 (An @H2 (An @Es (An @D5 (An @Db (An @El @GP)))))))))))))
theorem VM(c:UInt8): ∀l:List UInt8,Ce c l=if Lib.indexByte l c= -1 then l.length else(Lib.indexByte l c).toNat+1
 | []=>by simp[Ce,Lib.indexByte]
 | x::l=>by
  have ih:=VM c l
  have hge:=Lib.indexByte_ge l c
  by_cases hc:x=c
  ·subst hc;simp[Ce,Lib.indexByte]
  ·simp only[Ce,if_neg hc,Lib.indexByte,beq_iff_eq,ih,List.length_cons]
   by_cases h2:Lib.indexByte l c= -1
   ·simp[h2]
   ·have h3:Lib.indexByte l c+1≠ -1:=by omega
    have h4:(Lib.indexByte l c+1).toNat=(Lib.indexByte l c).toNat+1:=by omega
    simp only[h2,if_false,h3,h4]
theorem Zo(c:UInt8):AK Tryz.prog 43 #[.int .u8 (c.toNat:Int)] [] (fun u_ _=>u_=.bool (Ae c.toNat)):=by
 refine AC ⟨Tryz.prog,43,Tryz.f43,9,[0,2],⟨[],none⟩,[],_⟩ rfl (args:=[_]) Tryz.func43 rfl (by kernel_rfl) Tryz.ntmps43 (by simp) (by kernel_rfl) ?_
 intro ν fr
 simp only[AF,↓AE,simprocAttr]
 rw[WB]
theorem Bn(c:UInt8)(A_:AH):Ag Tryz.prog 43 #[.int .u8 (c.toNat:Int)] A_=some (.bool (Ae c.toNat)):=AX (BD (by kernel_rfl) (Zo c))
theorem WM(c:UInt8):AK Tryz.prog 44 #[.int .u8 (c.toNat:Int)] [] (fun u_ _=>u_=.bool (BG c.toNat)):=by
 refine AC ⟨Tryz.prog,44,Tryz.f44,25,[0,2],⟨[],none⟩,[],_⟩ rfl (args:=[_]) Tryz.func44 rfl (by kernel_rfl) Tryz.ntmps44 (by simp) (by kernel_rfl) ?_
 intro ν fr
 have e95:=uj c.toNat
 have hl:=SZ c.toNat
 cases hd:Ae c.toNat with
 |true=>
  simp only[AF,↓AE,simprocAttr,Bn,hd]
  simp[BG,hd]
 |false=>
  simp only[AF,↓AE,simprocAttr,Bn,hd,e95]
  simp[BG,hd,←hl]
theorem De(c:UInt8)(A_:AH):Ag Tryz.prog 44 #[.int .u8 (c.toNat:Int)] A_=some (.bool (BG c.toNat)):=AX (BD (by kernel_rfl) (WM c))
theorem lL(s:ByteArray)(i:Nat)(hi:i≤s.size)(hs:s.size≤100000):AK Tryz.prog 78 #[.string s,.int .i64 (i:Int)] [] (fun u_ _=>u_=.int .i64 ((i+BH (s.toList.drop i):Nat):Int)):=by
 refine AC ⟨Tryz.prog,78,Tryz.f78,18,[0,1,4],⟨[],none⟩,[],_⟩ rfl (args:=[_,_]) Tryz.func78 rfl (by kernel_rfl) Tryz.ntmps78 (by simp) (by kernel_rfl) ?_
 intro ν fr
 simp only[AF,↓AE,simprocAttr]
 obtain⟨e,he,h1,h2,h3⟩: ∃e:Nat,e=i∧i≤e∧e≤s.size∧i+BH (s.toList.drop i)=e+BH (s.toList.drop e):=⟨i,rfl,by omega,hi,rfl⟩
 rw[show(1,some (Value.int .i64 (i:Int)))=(1,some (Value.int .i64 (e:Int))) by rw[he]]
 clear he fr
 generalize hl:s.toList.drop e=l at h3
 induction l generalizing e with
 |nil=>
  have hlt:((e:Int)<(s.size:Int))=False:=by have:=CB hl;simp;omega
  refine AR.intro (by kernel_rfl) ?_
  intro ν fr
  simp only[AF,↓AE,simprocAttr,hlt]
  rw[h3]
  rfl
 | cons c l ih=>
  obtain⟨hp,hc,hl',hsl,hb⟩:=Bj hl
  have hlt:((e:Int)<(s.size:Int))=True:=by simp;omega
  have we:IntKind.i64.wrap ((e:Int)+1)=((e+1:Nat):Int):=by rw[AW (by omega) (by omega)];omega
  refine AR.intro (by kernel_rfl) ?_
  intro ν fr
  simp only[BH]at h3
  cases hw:Ae c.toNat with
  |true=>
   rw[if_pos hw]at h3
   simp only[AF,↓AE,simprocAttr,Bn,hlt,hb,we,hw]
   exact AR.weak (ih (e+1) (by omega) (by omega) hl' (by omega)) (by simp[Ah,AO]) (SubA.refl _)
  |false=>
   rw[if_neg (by simp[hw])]at h3
   simp only[AF,↓AE,simprocAttr,Bn,hlt,hb,we,hw]
   rw[h3]
   rfl
theorem Hh(s:ByteArray)(i:Nat)(hi:i≤s.size)(hs:s.size≤100000)(A_:AH):Ag Tryz.prog 78 #[.string s,.int .i64 (i:Int)] A_=some (.int .i64 ((i+BH (s.toList.drop i):Nat):Int)):=AX (BD (by kernel_rfl) (lL s i hi hs))
theorem lM(s:ByteArray)(i:Nat)(c:UInt8)(hi:i≤s.size)(hs:s.size≤100000):AK Tryz.prog 42 #[.string s,.int .i64 (i:Int),.int .u8 (c.toNat:Int)] [] (fun u_ _=>u_=.int .i64 ((i+Ce c (s.toList.drop i):Nat):Int)):=by
 refine AC ⟨Tryz.prog,42,Tryz.f42,21,[0,1,2,6,7],⟨[],none⟩,[],_⟩ rfl (args:=[_,_,_]) Tryz.func42 rfl (by kernel_rfl) Tryz.ntmps42 (by simp) (by kernel_rfl) ?_
 intro ν fr
 have hle2:((i:Int)≤(s.size:Int))=True:=by simp;omega
 have he0:(0≤(i:Int))=True:=by simp
 have hu:=VM c (s.toList.drop i)
 have hx:=Lib.indexByte_ge (s.toList.drop i) c
 have hw:Nat.toUInt8 c.toNat=c:=by simp
 rcases F5 (s.toList.drop i) c with hy|hy
 rotate_left
 ·have hm:Lib.indexByte (s.toList.drop i) c<0:=by rw[hy];simp[Lib.indexByte]
  simp only[AF,↓AE,simprocAttr,du,hle2,he0,F1,hw,eq_true hm]
  rw[hu,if_pos (by omega),List.length_drop,AP]
  have:i+(s.size - i)=s.size:=by omega
  rw[this]
 rw[List.length_drop,AP]at hy
 by_cases hm:Lib.indexByte (s.toList.drop i) c<0
 ·simp only[AF,↓AE,simprocAttr,du,hle2,he0,F1,hw,eq_true hm]
  rw[hu,if_pos (by omega),List.length_drop,AP]
  have:i+(s.size - i)=s.size:=by omega
  rw[this]
 ·obtain⟨q,hq⟩:=Int.eq_ofNat_of_zero_le (Int.not_lt.1 hm)
  have w1:IntKind.i64.wrap ((i:Int)+Lib.indexByte (s.toList.drop i) c)=((i+q:Nat):Int):=by rw[hq,AW (by omega) (by omega)];omega
  have w2:IntKind.i64.wrap (((i+q:Nat):Int)+1)=((i+q+1:Nat):Int):=by rw[AW (by omega) (by omega)];omega
  simp only[AF,↓AE,simprocAttr,du,hle2,he0,F1,hw,eq_false hm,w1,w2]
  rw[hu,if_neg (by omega),hq,Int.toNat_natCast]
  congr 1
theorem Hi(s:ByteArray)(i:Nat)(c:UInt8)(hi:i≤s.size)(hs:s.size≤100000)(A_:AH):Ag Tryz.prog 42 #[.string s,.int .i64 (i:Int),.int .u8 (c.toNat:Int)] A_=some (.int .i64 ((i+Ce c (s.toList.drop i):Nat):Int)):=AX (BD (by kernel_rfl) (lM s i c hi hs))
def Z2(s:ByteArray)(i:Nat):Nat×Nat:=match HH (s.toList.drop i)with|some (d,k)=>(i+d,i+d+k)|none=>(0,0)
theorem iQ(s:ByteArray)(i:Nat)(hi:i≤s.size)(hs:s.size≤100000):AK Tryz.prog 45 #[.string s,.int .i64 (i:Int)] [] (fun u_ _=>u_=.tuple #[.int .i64 ((Z2 s i).1:Int),.int .i64 ((Z2 s i).2:Int)]):=by
 refine AC ⟨Tryz.prog,45,Tryz.f45,41,[0,1,4,5],⟨[],none⟩,[],_⟩ rfl (args:=[_,_]) Tryz.func45 rfl (by kernel_rfl) Tryz.ntmps45 (by simp) (by kernel_rfl) ?_
 intro ν fr
 have hd:=JS (s.toList.drop i)
 rw[List.length_drop,AP]at hd
 have ad:=Hh s i hi hs
 have e46': ∀c:UInt8,((c.toNat:Int)=46)=(c=46):=fun c=>propext ⟨fun h=>by rw[←UInt8.toNat_inj];have:(46:UInt8).toNat=46:=rfl;omega,fun h=>by rw[h];rfl⟩
 have e46: ∀c:UInt8,((c.toNat:Int) !=46)= !decide (c=46):=fun c=>by
  by_cases h:c=46
  ·subst h;rfl
  ·have h2: ¬(c.toNat:Int)=46:=by rw[e46'];exact h
   simp[h,h2]
 have e37': ∀c:UInt8,((c.toNat:Int)=37)=(c=37):=fun c=>propext ⟨fun h=>by rw[←UInt8.toNat_inj];have:(37:UInt8).toNat=37:=rfl;omega,fun h=>by rw[h];rfl⟩
 have e37: ∀c:UInt8,((c.toNat:Int) !=37)= !decide (c=37):=fun c=>by
  by_cases h:c=37
  ·subst h;rfl
  ·have h2: ¬(c.toNat:Int)=37:=by rw[e37'];exact h
   simp[h,h2]
 have hdd:s.toList.drop (i+BH (s.toList.drop i))=(s.toList.drop i).drop (BH (s.toList.drop i)):=by rw[List.drop_drop]
 cases hl:(s.toList.drop i).drop (BH (s.toList.drop i))with
 |nil=>
  have hf:HH (s.toList.drop i)=none:=by unfold HH;rw[hl]
  rw[hl]at hdd
  have:=CB hdd
  have ge:((s.size:Int)≤((i+BH (s.toList.drop i):Nat):Int))=True:=eq_true (by omega)
  simp only[AF,↓AE,simprocAttr,ad,ge]
  simp only[Z2,hf];rfl
 | cons c m=>
  rw[hl]at hdd
  obtain⟨hp,hc,hl',hsl,hb⟩:=Bj hdd
  have ge:((s.size:Int)≤((i+BH (s.toList.drop i):Nat):Int))=False:=eq_false (by omega)
  by_cases h46:c=46
  rotate_left
  ·have hf:HH (s.toList.drop i)=none:=by unfold HH;rw[hl];simp only[if_neg h46]
   simp only[AF,↓AE,simprocAttr,ad,ge,hb,e46,eq_false h46]
   simp only[Z2,hf];rfl
  have wp:IntKind.i64.wrap (((i+BH (s.toList.drop i):Nat):Int)+1)=((i+BH (s.toList.drop i)+1:Nat):Int):=by rw[AW (by omega) (by omega)];omega
  have ad2:=Hh s (i+BH (s.toList.drop i)+1) (by omega) hs
  rw[hl']at ad2
  have hm:=JS m
  have hml:i+BH (s.toList.drop i)+1+m.length=s.size:=by
   have:=congrArg List.length hl'
   rw[List.length_drop,AP]at this;omega
  by_cases h0:BH m=0
  ·have hf:HH (s.toList.drop i)=none:=by unfold HH;rw[hl];simp only[if_pos h46,if_pos h0]
   have q1:(((i+BH (s.toList.drop i)+1+BH m:Nat):Int)=((i+BH (s.toList.drop i)+1:Nat):Int))=True:=eq_true (by omega)
   have q2:(((i+BH (s.toList.drop i)+1+BH m:Nat):Int)==((i+BH (s.toList.drop i)+1:Nat):Int))=true:=by simp;omega
   simp only[AF,↓AE,simprocAttr,ad,ge,hb,e46,eq_true h46,wp,ad2,q2]
   simp only[Z2,hf];rfl
  have q1:(((i+BH (s.toList.drop i)+1+BH m:Nat):Int)=((i+BH (s.toList.drop i)+1:Nat):Int))=False:=eq_false (by omega)
  have q2:(((i+BH (s.toList.drop i)+1+BH m:Nat):Int)==((i+BH (s.toList.drop i)+1:Nat):Int))=false:=by simp;omega
  have hdd2:s.toList.drop (i+BH (s.toList.drop i)+1+BH m)=m.drop (BH m):=by rw[←List.drop_drop,hl']
  cases hl2:m.drop (BH m)with
  |nil=>
   have hf:HH (s.toList.drop i)=none:=by unfold HH;rw[hl];simp only[if_pos h46,if_neg h0,hl2]
   rw[hl2]at hdd2
   have:=CB hdd2
   have ge2:((s.size:Int)≤((i+BH (s.toList.drop i)+1+BH m:Nat):Int))=True:=eq_true (by omega)
   simp only[AF,↓AE,simprocAttr,ad,ge,hb,e46,eq_true h46,wp,ad2,q2,ge2]
   simp only[Z2,hf];rfl
  | cons d n=>
   rw[hl2]at hdd2
   obtain⟨hp2,hc2,hl2',hsl2,hb2⟩:=Bj hdd2
   have ge2:((s.size:Int)≤((i+BH (s.toList.drop i)+1+BH m:Nat):Int))=False:=eq_false (by omega)
   by_cases h37:d=37
   ·have hf:HH (s.toList.drop i)=some (BH (s.toList.drop i),BH m+1):=by unfold HH;rw[hl];simp only[if_pos h46,if_neg h0,hl2,if_pos h37]
    simp only[AF,↓AE,simprocAttr,ad,ge,hb,e46,eq_true h46,wp,ad2,q2,ge2,hb2,e37,eq_true h37]
    simp only[Z2,hf]
    rw[show i+BH (s.toList.drop i)+(BH m+1)=i+BH (s.toList.drop i)+1+BH m by omega]
   ·have hf:HH (s.toList.drop i)=none:=by unfold HH;rw[hl];simp only[if_pos h46,if_neg h0,hl2,if_neg h37]
    simp only[AF,↓AE,simprocAttr,ad,ge,hb,e46,eq_true h46,wp,ad2,q2,ge2,hb2,e37,eq_false h37]
    simp only[Z2,hf];rfl
theorem HJ(s:ByteArray)(i:Nat)(hi:i≤s.size)(hs:s.size≤100000)(A_:AH):Ag Tryz.prog 45 #[.string s,.int .i64 (i:Int)] A_=some (.tuple #[.int .i64 ((Z2 s i).1:Int),.int .i64 ((Z2 s i).2:Int)]):=AX (BD (by kernel_rfl) (iQ s i hi hs))
set_option maxHeartbeats 2000000
set_option maxRecDepth 20000
theorem qN(s:ByteArray):AK Tryz.prog 15 #[.string s] [] (fun u_ _=>u_=.bool (!(kr s)&&Bp s)):=by
 refine AC ⟨Tryz.prog,15,Tryz.f15,23,[0,2,3],⟨[],none⟩,[],_⟩ rfl (args:=[_]) Tryz.func15 rfl (by kernel_rfl) Tryz.ntmps15 (by simp) (by kernel_rfl) ?_
 intro ν fr
 simp only[AF,↓AE,simprocAttr,du]
 unfold kr M9 F2 FB FA
 repeat' split
 all_goals simp_all
theorem QK(s:ByteArray)(A_:AH):Ag Tryz.prog 15 #[.string s] A_=some (.bool (!(kr s)&&Bp s)):=AX (BD (by kernel_rfl) (qN s))
theorem gu(s:ByteArray)(hs:s.size≤100000):AK Tryz.prog 119 #[.string s] [] (fun u_ _=>u_=.bool (Gd s.toList)):=by
 refine AC ⟨Tryz.prog,119,Tryz.f119,17,[0,2,3,5,6],⟨[],none⟩,[],_⟩ rfl (args:=[_]) Tryz.func119 rfl (by kernel_rfl) Tryz.ntmps119 (by simp) (by kernel_rfl) ?_
 intro ν fr
 simp only[AF,↓AE,simprocAttr]
 obtain⟨e,he,h2,h3⟩: ∃e:Nat,e=0∧e≤s.size∧(s.toList.all fun c=>Ae c.toNat)=((s.toList.drop e).all fun c=>Ae c.toNat):=⟨0,rfl,by omega,rfl⟩
 rw[show(6,some (Value.int .i64 0))=(6,some (Value.int .i64 (e:Int))) by rw[he];rfl]
 clear he fr
 generalize hl:s.toList.drop e=l at h3
 induction l generalizing e with
 |nil=>
  have hlt:((e:Int)<(s.size:Int))=False:=by have:=CB hl;simp;omega
  refine AR.intro (by kernel_rfl) ?_
  intro ν fr
  simp only[AF,↓AE,simprocAttr,hlt]
  unfold Gd
  rw[h3]
  by_cases h0:s.toList=[]
  ·simp[h0]
  ·simp[]
 | cons c l ih=>
  obtain⟨hp,hc,hl',hsl,hb⟩:=Bj hl
  have hlt:((e:Int)<(s.size:Int))=True:=by simp;omega
  have we:IntKind.i64.wrap ((e:Int)+1)=((e+1:Nat):Int):=by rw[AW (by omega) (by omega)];omega
  refine AR.intro (by kernel_rfl) ?_
  intro ν fr
  rw[List.all_cons]at h3
  cases hw:Ae c.toNat with
  |true=>
   rw[hw,Bool.true_and]at h3
   simp only[AF,↓AE,simprocAttr,Bn,hlt,hb,we,hw]
   exact AR.weak (ih (e+1) (by omega) hl' h3) (by simp[Ah,AO]) (SubA.refl _)
  |false=>
   rw[hw,Bool.false_and]at h3
   simp only[AF,↓AE,simprocAttr,Bn,hlt,hb,we,hw]
   unfold Gd
   rw[h3,Bool.and_false]
theorem Do(s:ByteArray)(hs:s.size≤100000)(A_:AH):Ag Tryz.prog 119 #[.string s] A_=some (.bool (Gd s.toList)):=AX (BD (by kernel_rfl) (gu s hs))
theorem mZ(n:Nat)(hn:n≤2):AK Tryz.prog 120 #[.int .i64 (n:Int)] [] (fun u_ _=>u_=.int .i64 ((100*10 ^ n:Nat):Int)):=by
 refine AC ⟨Tryz.prog,120,Tryz.f120,11,[0,2,3,4,5],⟨[],none⟩,[],_⟩ rfl (args:=[_]) Tryz.func120 rfl (by kernel_rfl) Tryz.ntmps120 (by simp) (by kernel_rfl) ?_
 intro ν fr
 obtain rfl|rfl|rfl:n=0∨n=1∨n=2:=by omega
 ·simp only[AF,↓AE,simprocAttr]
  clear fr
  refine AR.intro (by kernel_rfl) ?_
  intro ν fr
  simp only[AF,↓AE,simprocAttr]
 ·simp only[AF,↓AE,simprocAttr]
  clear fr
  refine AR.intro (by kernel_rfl) ?_
  intro ν fr
  simp only[AF,↓AE,simprocAttr]
  clear fr
  refine AR.intro (by kernel_rfl) ?_
  intro ν fr
  simp only[AF,↓AE,simprocAttr]
  rfl
 ·simp only[AF,↓AE,simprocAttr]
  clear fr
  refine AR.intro (by kernel_rfl) ?_
  intro ν fr
  simp only[AF,↓AE,simprocAttr]
  clear fr
  refine AR.intro (by kernel_rfl) ?_
  intro ν fr
  simp only[AF,↓AE,simprocAttr]
  clear fr
  refine AR.intro (by kernel_rfl) ?_
  intro ν fr
  simp only[AF,↓AE,simprocAttr]
  rfl
theorem Ek(n:Nat)(hn:n≤2)(A_:AH):Ag Tryz.prog 120 #[.int .i64 (n:Int)] A_=some (.int .i64 ((100*10 ^ n:Nat):Int)):=AX (BD (by kernel_rfl) (mZ n hn))
theorem QV{s:ByteArray}(h:0<s.size): ∃c,s.toList.getLast? =some c∧(s.extract (s.size - 1) s.size).toList=[c]∧s.extract 0 (s.size - 1)=bs s.toList.dropLast:=by
 have hne:s.toList≠[]:=fun e=>by have:=AP s;rw[e]at this;simp at this;omega
 refine⟨s.toList.getLast hne,List.getLast?_eq_some_getLast hne, ?_, ?_⟩
 ·rw[CN]
  conv=>lhs;rw[←List.dropLast_concat_getLast hne]
  rw[List.drop_append,List.drop_eq_nil_of_le (by simp[AP]),List.length_dropLast,AP]
  simp
 ·apply DD
  rw[Ar,Ds,List.drop_zero,List.dropLast_eq_take,AP]
theorem mX(s:ByteArray)(hs:s.size≤100000):AK Tryz.prog 180 #[.string s,.string ⟨#[37]⟩] [] (fun u_ _=>u_=.bool (decide (s.toList.getLast? =some 37))):=by
 refine AC ⟨Tryz.prog,180,Tryz.f180,21,[0,1,4],⟨[],none⟩,[],_⟩ rfl (args:=[_,_]) Tryz.func180 rfl (by kernel_rfl) Tryz.ntmps180 (by simp) (by kernel_rfl) ?_
 intro ν fr
 have l1:ByteArray.size ⟨#[37]⟩=1:=rfl
 by_cases h0:s.size=0
 ·have e0:((1:Int)≤(s.size:Int))=False:=eq_false (by omega)
  have hn:=GS h0
  simp only[AF,↓AE,simprocAttr,l1,e0]
  rw[hn];rfl
 ·have e0:((1:Int)≤(s.size:Int))=True:=eq_true (by omega)
  have w1:IntKind.i64.wrap ((s.size:Int) - 1)=((s.size - 1:Nat):Int):=by rw[AW (by omega) (by omega)];omega
  have e1:(((s.size - 1:Nat):Int)≤(s.size:Int))=True:=eq_true (by omega)
  have e2:((0:Int)≤((s.size - 1:Nat):Int))=True:=eq_true (by omega)
  obtain⟨c,h1,h2,h3⟩:=QV (s:=s) (by omega)
  simp only[AF,↓AE,simprocAttr,l1,e0,w1,e1,e2,h2]
  rw[h1,show ByteArray.toList ⟨#[37]⟩=[37] by rw[ByteArray.toList_eq]]
  congr 1
  rw[Bool.eq_iff_iff];simp
theorem KG(s:ByteArray)(hs:s.size≤100000)(A_:AH):Ag Tryz.prog 180 #[.string s,.string ⟨#[37]⟩] A_=some (.bool (decide (s.toList.getLast? =some 37))):=AX (BD (by kernel_rfl) (mX s hs))
theorem la(s:ByteArray)(hs:s.size≤100000):AK Tryz.prog 150 #[.string s,.string ⟨#[37]⟩] [] (fun u_ _=>u_=(if s.toList.getLast? =some 37 then .tuple #[.string (bs s.toList.dropLast),.bool true]else .tuple #[.string s,.bool false])):=by
 refine AC ⟨Tryz.prog,150,Tryz.f150,18,[0,1,4,5],⟨[],none⟩,[],_⟩ rfl (args:=[_,_]) Tryz.func150 rfl (by kernel_rfl) Tryz.ntmps150 (by simp) (by kernel_rfl) ?_
 intro ν fr
 have l1:ByteArray.size ⟨#[37]⟩=1:=rfl
 have hv:=KG s hs
 by_cases h:s.toList.getLast? =some 37
 ·have h0:0<s.size:=by
   rcases Nat.eq_zero_or_pos s.size with h0|h0
   ·rw[GS h0]at h;cases h
   ·exact h0
  have w1:IntKind.i64.wrap ((s.size:Int) - 1)=((s.size - 1:Nat):Int):=by rw[AW (by omega) (by omega)];omega
  have e1:(((s.size - 1:Nat):Int)≤(s.size:Int))=True:=eq_true (by omega)
  have e2:((0:Int)≤((s.size - 1:Nat):Int))=True:=eq_true (by omega)
  obtain⟨c,h1,h2,h3⟩:=QV h0
  simp only[h,decide_true]at hv
  rw[if_pos h]
  simp only[AF,↓AE,simprocAttr,hv,l1,w1,e1,e2,h3]
 ·simp only[h,decide_false]at hv
  rw[if_neg h]
  simp only[AF,↓AE,simprocAttr,hv]
theorem KA(s:ByteArray)(hs:s.size≤100000)(A_:AH):Ag Tryz.prog 150 #[.string s,.string ⟨#[37]⟩] A_=some ((if s.toList.getLast? =some 37 then .tuple #[.string (bs s.toList.dropLast),.bool true]else .tuple #[.string s,.bool false])):=AX (BD (by kernel_rfl) (la s hs))
theorem ld(s:ByteArray)(hs:s.size≤100000):AK Tryz.prog 117 #[.string s,.string ⟨#[37]⟩] [] (fun u_ _=>u_=(if s.toList.getLast? =some 37 then .tuple #[.string (bs s.toList.dropLast),.bool true]else .tuple #[.string s,.bool false])):=by
 refine AC ⟨Tryz.prog,117,Tryz.f117,11,[0,1,4,5],⟨[],none⟩,[],_⟩ rfl (args:=[_,_]) Tryz.func117 rfl (by kernel_rfl) Tryz.ntmps117 (by simp) (by kernel_rfl) ?_
 intro ν fr
 have cv:=KA s hs
 by_cases h:s.toList.getLast? =some 37
 ·rw[if_pos h]at cv⊢
  simp only[AF,↓AE,simprocAttr,cv]
 ·rw[if_neg h]at cv⊢
  simp only[AF,↓AE,simprocAttr,cv]
theorem KB(s:ByteArray)(hs:s.size≤100000)(A_:AH):Ag Tryz.prog 117 #[.string s,.string ⟨#[37]⟩] A_=some ((if s.toList.getLast? =some 37 then .tuple #[.string (bs s.toList.dropLast),.bool true]else .tuple #[.string s,.bool false])):=AX (BD (by kernel_rfl) (ld s hs))
def D2:List UInt8→List UInt8×Option (List UInt8)
 | []=>([],none)
 |c::l=>if c=46 then([],some l)else(c::(D2 l).1,(D2 l).2)
theorem T8: ∀l:List UInt8,if Lib.indexByte l 46= -1 then D2 l=(l,none)else D2 l=(l.take (Lib.indexByte l 46).toNat,some (l.drop ((Lib.indexByte l 46).toNat+1)))
 | []=>by simp[Lib.indexByte,D2]
 | c::l=>by
  have ih:=T8 l
  have hge:=Lib.indexByte_ge l 46
  by_cases hc:c=46
  ·subst hc;simp[Lib.indexByte,D2]
  ·simp only[D2,if_neg hc,Lib.indexByte,beq_iff_eq]
   by_cases h2:Lib.indexByte l 46= -1
   ·rw[if_pos h2]at ih
    simp[h2,ih]
   ·rw[if_neg h2]at ih
    have h3:Lib.indexByte l 46+1≠ -1:=by omega
    have h4:(Lib.indexByte l 46+1).toNat=(Lib.indexByte l 46).toNat+1:=by omega
    simp[h2,h3,h4,ih]
theorem mc(s:ByteArray)(hs:s.size≤100000):AK Tryz.prog 181 #[.string s,.string ⟨#[46]⟩] [] (fun u_ _=>u_=.int .i64 (Lib.indexByte s.toList 46)):=by
 refine AC ⟨Tryz.prog,181,Tryz.f181,143,[0,1,4,5,6,7,8,9,10,11,12,13],⟨[],none⟩,[],_⟩ rfl (args:=[_,_]) Tryz.func181 rfl (by kernel_rfl) Tryz.ntmps181 (by simp) (by kernel_rfl) ?_
 intro ν fr
 have l1:ByteArray.size ⟨#[46]⟩=1:=rfl
 simp only[AF,↓AE,simprocAttr,du,l1,show Nat.toUInt8 46=46 from rfl]
 rw[show ByteArray.toList ⟨#[46]⟩=[46] by rw[ByteArray.toList_eq]]
 split
 ·rename_i h;rw[←h];rfl
 ·rw[←ByteArray.toList_eq]
theorem KH(s:ByteArray)(hs:s.size≤100000)(A_:AH):Ag Tryz.prog 181 #[.string s,.string ⟨#[46]⟩] A_=some (.int .i64 (Lib.indexByte s.toList 46)):=AX (BD (by kernel_rfl) (mc s hs))
def Mx(s:ByteArray):Value:=match (D2 s.toList).2 with|none=>.tuple #[.string s,.string ⟨#[]⟩,.bool false]|some f=>.tuple #[.string (bs (D2 s.toList).1),.string (bs f),.bool true]
theorem lZ(s:ByteArray)(hs:s.size≤100000):AK Tryz.prog 151 #[.string s,.string ⟨#[46]⟩] [] (fun u_ _=>u_=Mx s):=by
 refine AC ⟨Tryz.prog,151,Tryz.f151,23,[0,1,4,5,6,7],⟨[],none⟩,[(3,.q false)],_⟩ rfl (args:=[_,_]) Tryz.func151 rfl (by kernel_rfl) Tryz.ntmps151 (by simp) (by kernel_rfl) ?_
 intro ν fr
 have l1:ByteArray.size ⟨#[46]⟩=1:=rfl
 have iv:=KH s hs
 have hx:=T8 s.toList
 have hge:=Lib.indexByte_ge s.toList 46
 by_cases h:Lib.indexByte s.toList 46= -1
 ·rw[if_pos h]at hx
  simp only[h]at iv
  have ec:Mx s=.tuple #[.string s,.string ⟨#[]⟩,.bool false]:=by unfold Mx;rw[hx]
  rw[ec]
  simp only[AF,↓AE,simprocAttr,iv]
 ·rw[if_neg h]at hx
  obtain⟨q,hq⟩:=Int.eq_ofNat_of_zero_le (show 0≤Lib.indexByte s.toList 46 by omega)
  have hlt:q<s.size:=by
   rcases F5 s.toList 46 with h1|h1
   ·rw[AP,hq]at h1;omega
   ·exfalso;apply h;rw[h1];rfl
  rw[hq,Int.toNat_natCast]at hx
  simp only[hq]at iv
  have ec:Mx s=.tuple #[.string (bs (s.toList.take q)),.string (bs (s.toList.drop (q+1))),.bool true]:=by unfold Mx;rw[hx]
  rw[ec]
  have w1:IntKind.i64.wrap ((q:Int)+1)=((q+1:Nat):Int):=by rw[AW (by omega) (by omega)];omega
  have e0:((0:Int)≤(q:Int))=True:=eq_true (by omega)
  have e1:(((q:Nat):Int)≤(s.size:Int))=True:=eq_true (by omega)
  have e2:(((q+1:Nat):Int)≤(s.size:Int))=True:=eq_true (by omega)
  have e3:((0:Int)≤((q+1:Nat):Int))=True:=eq_true (by omega)
  have x1:s.extract 0 q=bs (s.toList.take q):=DD (by rw[Ar,Ds,List.drop_zero])
  have x2:s.extract (q+1) s.size=bs (s.toList.drop (q+1)):=DD (by rw[Ar,CN])
  simp only[AF,↓AE,simprocAttr,iv,l1,w1,e0,e1,e2,e3,x1,x2]
theorem J9(s:ByteArray)(hs:s.size≤100000)(A_:AH):Ag Tryz.prog 151 #[.string s,.string ⟨#[46]⟩] A_=some (Mx s):=AX (BD (by kernel_rfl) (lZ s hs))
theorem lf(s:ByteArray)(hs:s.size≤100000):AK Tryz.prog 118 #[.string s,.string ⟨#[46]⟩] [] (fun u_ _=>u_=Mx s):=by
 refine AC ⟨Tryz.prog,118,Tryz.f118,13,[0,1,4,5,6],⟨[],none⟩,[],_⟩ rfl (args:=[_,_]) Tryz.func118 rfl (by kernel_rfl) Tryz.ntmps118 (by simp) (by kernel_rfl) ?_
 intro ν fr
 have cv:=J9 s hs
 unfold Mx at cv⊢
 cases hc:(D2 s.toList).2 with
 |none=>
  rw[hc]at cv
  simp only[AF,↓AE,simprocAttr,cv]
 |some f=>
  rw[hc]at cv
  simp only[AF,↓AE,simprocAttr,cv]
theorem KC(s:ByteArray)(hs:s.size≤100000)(A_:AH):Ag Tryz.prog 118 #[.string s,.string ⟨#[46]⟩] A_=some (Mx s):=AX (BD (by kernel_rfl) (lf s hs))
set_option maxHeartbeats 4000000
set_option maxRecDepth 20000
theorem QB: ∀l:List UInt8,(l.all fun c=>Ae c.toNat)=true→ ∀r:List UInt8,(∀c m,r=c::m→Ae c.toNat=false)→BH (l++r)=l.length
 | [],_,r,h=>by
  cases r with
  |nil=>rfl
  |cons c m=>simp only[List.nil_append,BH,h c m rfl];rfl
 |c::l,ha,r,h=>by
  rw[List.all_cons,Bool.and_eq_true]at ha
  simp only[List.cons_append,BH,ha.1,if_true,QB l ha.2 r h,List.length_cons]
def Fa:Option (List UInt8)→List UInt8
 |none=>[]
 |some f=>46::f
theorem Ll: ∀l:List UInt8,l=(D2 l).1++Fa (D2 l).2
 | []=>rfl
 | c::l=>by
  have:=Ll l
  by_cases hc:c=46
  ·simp[D2,hc,Fa]
  ·simp only[D2,if_neg hc,List.cons_append]
   rw[←this]
theorem T9: ∀l:List UInt8,(46:UInt8)∉(D2 l).1
 | []=>by simp[D2]
 | c::l=>by
  have:=T9 l
  by_cases hc:c=46
  ·simp[D2,hc]
  ·simp only[D2,if_neg hc,List.mem_cons,not_or]
   exact⟨fun e=>hc e.symm,this⟩
theorem QC: ∀(l r:List UInt8),l≠[]→(l.all fun c=>Ae c.toNat)=false→ ∃c m,(l++r).drop (BH (l++r))=c::m∧c∈l
 | [],_,h,_=>absurd rfl h
 | c::l,r,_,h=>by
  by_cases hc:Ae c.toNat=true
  ·rw[List.all_cons,hc,Bool.true_and]at h
   have hne:l≠[]:=fun e=>by rw[e]at h;cases h
   obtain⟨d,m,h1,h2⟩:=QC l r hne h
   exact⟨d,m,by simp only[List.cons_append,BH,hc,if_true,List.drop_succ_cons];exact h1,List.mem_cons_of_mem _ h2⟩
  ·exact⟨c,l++r,by simp[BH,hc],List.mem_cons_self ..⟩
def UK:Option (List UInt8)→Bool
 |none=>true
 |some f=>decide (f.length≤2)&&(Gd f&& !(decide (f.getLast? =some 48)))
def Ob:Option (List UInt8)→Nat
 |none=>0
 |some f=>if f.length=2 then Cv f else Cv f*10
def Su(w:List UInt8)(f:Option (List UInt8)):Int×Int:=
 if bS w=false then(0,2)else if UK f=false then(0,2)else if 3<w.length then(0,4)else if 10000<Cv w*100+Ob f then(0,4)else((Cv w*100+Ob f:Nat),0)
theorem Uz{s:List UInt8}(h0:s≠[])(hl:s.getLast? =some 37):Ny s=Su (D2 s.dropLast).1 (D2 s.dropLast).2:=by
 unfold Ny
 rw[if_neg h0,if_neg (by rw[hl];simp)]
 generalize s.dropLast=b
 have happ:=Ll b
 have hno:=T9 b
 obtain⟨w,hw⟩: ∃w,(D2 b).1=w:=⟨_,rfl⟩
 obtain⟨f,hf⟩: ∃f,(D2 b).2=f:=⟨_,rfl⟩
 rw[hw,hf]at happ
 rw[hw]at hno
 rw[hw,hf]
 unfold Su
 by_cases ha:(w.all fun c=>Ae c.toNat)=true
 ·have hd:BH b=w.length:=by
   rw[happ]
   refine QB w ha _ ?_
   intro c m e
   cases f with
   |none=>cases e
   |some f=>simp only[Fa,List.cons.injEq]at e;rw[←e.1];rfl
  have ht:b.take (BH b)=w:=by rw[hd,happ];simp
  have hdr:b.drop (BH b)=Fa f:=by rw[hd,happ];simp
  rw[ht,hdr,hd]
  cases f with
  |none=>simp only[Fa,UK,Ob,Bool.true_eq_false,if_false,Nat.add_zero];rfl
  | some f=>
   have hc:(2<f.length∨Gd f=false∨f.getLast? =some 48)↔UK (some f)=false:=by
    simp only[UK,Bool.and_eq_false_iff,decide_eq_false_iff_not,Bool.not_eq_false',decide_eq_true_eq]
    rw[Nat.not_le]
   simp only[Fa]
   by_cases h1:UK (some f)=false
   ·rw[if_pos h1]
    simp[hc.2 h1]
   ·rw[if_neg h1]
    have h2: ¬(2<f.length∨Gd f=false∨f.getLast? =some 48):=fun e=>h1 (hc.1 e)
    simp only[ne_eq,not_true_eq_false,false_or,if_neg h2,Ob];rfl
 ·have ha':(w.all fun c=>Ae c.toNat)=false:=by simpa using ha
  have hpw:bS w=false:=by unfold bS Gd;rw[ha'];simp
  rw[if_pos hpw]
  by_cases hne:w=[]
  ·rw[hne]at ha';cases ha'
  obtain⟨c,m,h1,h2⟩:=QC w (Fa f) hne ha'
  rw[←happ]at h1
  rw[h1]
  have hc:c≠46:=fun e=>hno (by rw[←e];exact h2)
  simp[hc]
theorem Lm: ∀(l:List UInt8) (a:Nat),BW l a=a*10 ^ l.length+BW l 0
 | [],a=>by simp[BW]
 |c::l,a=>by
  rw[BW,BW,Lm l (10*a+(c.toNat - 48)),Lm l (10*0+(c.toNat - 48)),List.length_cons,Nat.pow_succ,Nat.add_mul,Nat.add_mul]
  have:10*a*10 ^ l.length=a*(10 ^ l.length*10):=by rw[Nat.mul_comm 10 a,Nat.mul_assoc,Nat.mul_comm 10]
  omega
theorem Fy(c:UInt8)(l:List UInt8):BW (c::l) 0=(c.toNat - 48)*10 ^ l.length+BW l 0:=by rw[BW,Lm];simp
theorem qz(s:ByteArray)(hs:s.size≤100000):AK Tryz.prog 83 #[.string s] [] (fun u_ _=>u_=.tuple #[.int .i64 (Ny s.toList).1,.int .i64 (Ny s.toList).2]):=by
 refine AC ⟨Tryz.prog,83,Tryz.f83,96,[0,2,3,4,5,6,7,8,9,10,74,75],⟨[],none⟩,[(21,.q false)],_⟩ rfl (args:=[_]) Tryz.func83 rfl (by kernel_rfl) Tryz.ntmps83 (by simp) (by kernel_rfl) ?_
 intro ν fr
 by_cases h0:s.toList=[]
 ·have hr:Ny s.toList=(0,1):=by unfold Ny;rw[if_pos h0]
  rw[hr]
  simp only[AF,↓AE,simprocAttr,eq_true h0]
 have cs:=KB s hs
 by_cases hl:s.toList.getLast? =some 37
 rotate_left
 ·have hr:Ny s.toList=(0,2):=by unfold Ny;rw[if_neg h0,if_pos hl]
  rw[hr]
  rw[if_neg hl]at cs
  simp only[AF,↓AE,simprocAttr,eq_false h0,cs]
 rw[if_pos hl]at cs
 rw[Uz h0 hl]
 obtain⟨b,hb⟩: ∃b,s.toList.dropLast=b:=⟨_,rfl⟩
 rw[hb]at cs⊢
 have hbl:b.length≤100000:=by rw[←hb,List.length_dropLast,AP];omega
 have cv0:=KC (bs b) (by rw[Ab];exact hbl)
 unfold Mx at cv0
 rw[Ar]at cv0
 have happ:=Ll b
 obtain⟨w,hw⟩: ∃w,(D2 b).1=w:=⟨_,rfl⟩
 obtain⟨f,hf⟩: ∃f,(D2 b).2=f:=⟨_,rfl⟩
 rw[hw,hf]at happ⊢
 rw[hw,hf]at cv0
 have cv: ∀A,Ag Tryz.prog 118 #[.string (bs b),.string ⟨#[46]⟩] A=some (.tuple #[.string (bs w),.string (bs (f.getD [])),.bool f.isSome]):=fun A=>by
  cases f with
  |none=>
   have:b=w:=by rw[happ];simp[Fa]
   have h2:=cv0 A
   simp only at h2
   rw[h2,this];rfl
  |some f=>exact cv0 A
 clear cv0
 have hwl:w.length≤100000:=by have:=congrArg List.length happ;rw[List.length_append]at this;omega
 have hfl:(f.getD []).length≤100000:=by
  have:=congrArg List.length happ
  rw[List.length_append]at this
  cases f with
  |none=>simp
  |some f=>simp only[Fa,List.length_cons]at this;simp only[Option.getD_some];omega
 have aw:=Do (bs w) (by rw[Ab];exact hwl)
 have af:=Do (bs (f.getD [])) (by rw[Ab];exact hfl)
 rw[Ar]at aw af
 have ne0:=eq_false h0
 clear happ hbl hw hf hb hl h0
 cases ha:Gd w with
 |false=>
  have hp:bS w=false:=by simp[bS,ha]
  have hr:Su w f=(0,2):=by unfold Su;rw[if_pos hp]
  rw[hr]
  rw[ha]at aw
  simp only[AF,↓AE,simprocAttr,ne0,cs,cv,aw]
 |true=>
 rw[ha]at aw
 obtain⟨c0,w',rfl⟩: ∃c0 w',w=c0::w':=by
  cases w with
  |nil=>cases ha
  |cons c w=>exact⟨c,w,rfl⟩
 have i0:(bs (c0::w')).data[0]? =some c0:=rfl
 have e48:((c0.toNat:Int)=48)=(c0=48):=propext ⟨fun h=>by rw[←UInt8.toNat_inj];have:(48:UInt8).toNat=48:=rfl;omega,fun h=>by rw[h];rfl⟩
 have e48':((c0.toNat:Int)==48)=decide (c0=48):=by
  by_cases h:c0=48
  ·subst h;rfl
  ·have h2: ¬(c0.toNat:Int)=48:=by rw[e48];exact h
   simp[h,h2]
 by_cases hz:0<w'.length∧c0=48
 ·have hp:bS (c0::w')=false:=by
   obtain⟨z1,z2⟩:=hz
   simp only[bS,Bool.and_eq_false_iff,Bool.not_eq_false',Bool.and_eq_true,decide_eq_true_eq]
   right;exact⟨by simp;omega,by rw[z2];rfl⟩
  have hr:Su (c0::w') f=(0,2):=by unfold Su;rw[if_pos hp]
  rw[hr]
  have hg:((1:Int)<((w'.length+1:Nat):Int))=True:=eq_true (by omega)
  simp only[AF,↓AE,simprocAttr,ne0,cs,cv,aw,Ab,hg,i0,e48',eq_true hz.2]
 have hp:bS (c0::w')=true:=by
  simp only[bS,ha,Bool.true_and,Bool.not_eq_true',Bool.and_eq_false_iff,decide_eq_false_iff_not]
  by_cases h1:0<w'.length
  ·right;intro h;simp at h;exact hz ⟨h1,h⟩
  ·left;rw[List.length_cons];omega
 have had:((c0::w').all fun c=>Ae c.toNat)=true:=by simp only[Gd,Bool.and_eq_true]at ha;exact ha.2
 rcases Nat.eq_zero_or_pos w'.length with hw0|hw0
 ·have hgx:((1:Int)<((w'.length+1:Nat):Int))=False:=eq_false (by omega)
  have h48:True:=trivial
  by_cases hf:UK f=false
  ·have hr:Su (c0::w') f=(0,2):=by unfold Su;rw[if_neg (by rw[hp];simp),if_pos hf]
   rw[hr]
   cases f with
   |none=>cases hf
   | some g=>
    simp only[Option.getD_some,Option.isSome_some]at cv af hfl
    by_cases h2:2<g.length
    ·have h2':((2:Int)<(g.length:Int))=True:=eq_true (by omega)
     simp only[AF,↓AE,simprocAttr,ne0,cs,cv,aw,Ab,hgx,h2']
    have h2':((2:Int)<(g.length:Int))=False:=eq_false (by omega)
    cases hg:Gd g with
    |false=>
     rw[hg]at af
     simp only[AF,↓AE,simprocAttr,ne0,cs,cv,aw,Ab,hgx,h2',af]
    | true=>
     rw[hg]at af
     have hlast:g.getLast? =some 48:=by
      simp only[UK,hg,Bool.true_and,Bool.and_eq_false_iff,decide_eq_false_iff_not,Bool.not_eq_false',decide_eq_true_eq]at hf
      exact hf.resolve_left fun h=>h (by omega)
     have hgl:0<g.length:=by cases g with|nil=>cases hg|cons x y=>simp
     have ws:IntKind.i64.wrap ((g.length:Int) - 1)=((g.length - 1:Nat):Int):=by rw[AW (by omega) (by omega)];omega
     have hix:(bs g).data[g.length - 1]? =some 48:=by rw[←Array.getElem?_toList,DZ,←List.getLast?_eq_getElem?];exact hlast
     have lix:(((g.length - 1:Nat):Int)<0)=False:=eq_false (by omega)
     simp only[AF,↓AE,simprocAttr,ne0,cs,cv,aw,Ab,hgx,h2',af,ws,hix]
     first|done|rfl|trace_state
  have hft:UK f=true:=by simpa using hf
  have hr:Su (c0::w') f=if 3<(c0::w').length then((0:Int),(4:Int))else if 10000<Cv (c0::w')*100+Ob f then(0,4)else(((Cv (c0::w')*100+Ob f:Nat):Int),0):=by unfold Su;rw[if_neg (by rw[hp];simp),if_neg hf]
  rw[hr]
  clear hr hf
  cases f with
  | none=>
   simp only[Option.getD_none,Option.isSome_none]at cv
   by_cases h3:3<(c0::w').length
   ·have h3':((3:Int)<((w'.length+1:Nat):Int))=True:=eq_true (by rw[List.length_cons]at h3;omega)
    rw[if_pos h3]
    simp only[AF,↓AE,simprocAttr,Do,ne0,cs,cv,aw,Ab,hgx,h3']
   have h3':((3:Int)<((w'.length+1:Nat):Int))=False:=eq_false (by rw[List.length_cons]at h3;omega)
   rw[if_neg h3]
   simp only[AF,↓AE,simprocAttr,Do,ne0,cs,cv,aw,Ab,hgx,h3']
   have hv0:Ob none=0:=by rfl
   clear fr
   obtain⟨e,v,he,hv,hle,hvl,hinv⟩: ∃(e v:Nat),e=0∧v=0∧e≤(c0::w').length∧v≤100+e*90000∧v+100*BW ((c0::w').drop e) 0=0+100*BW (c0::w') 0:=⟨0,0,rfl,rfl,by omega,by omega,rfl⟩
   rw[show(75,some (Value.int .i64 0))=(75,some (Value.int .i64 (e:Int))) by rw[he];rfl,show(9,some (Value.int .i64 0))=(9,some (Value.int .i64 (v:Int))) by rw[hv];rfl]
   rw[hv0]
   clear he hv hv0
   generalize hl:(c0::w').drop e=l at hinv
   induction l generalizing e v with
   | nil=>
    have hn:e=(c0::w').length:=by have:=congrArg List.length hl;simp only[List.length_drop,List.length_nil,List.length_cons]at this hle ⊢;omega
    have hlt:((e:Int)<((w'.length+1:Nat):Int))=False:=eq_false (by rw[hn,List.length_cons];omega)
    have hve:v=Cv (c0::w')*100+0:=by unfold Cv;simp only[BW]at hinv ⊢;omega
    refine AR.intro (by kernel_rfl) ?_
    intro ν fr
    by_cases hbig:10000<Cv (c0::w')*100+0
    ·have hb':((10000:Int)<(v:Int))=True:=eq_true (by omega)
     rw[if_pos hbig]
     simp only[AF,↓AE,simprocAttr,hlt,hb']
    ·have hb':((10000:Int)<(v:Int))=False:=eq_false (by omega)
     rw[if_neg hbig]
     simp only[AF,↓AE,simprocAttr,hlt,hb']
     rw[hve];try rfl
   | cons c l ih=>
    have hln:e+(l.length+1)=(c0::w').length:=by have:=congrArg List.length hl;simp only[List.length_drop,List.length_cons]at this ⊢;omega
    have hcd:Ae c.toNat=true:=List.all_eq_true.1 had c (List.mem_of_mem_drop (by rw[hl];exact List.mem_cons_self ..))
    obtain⟨b5,b6⟩:=Bm hcd
    have hlt:((e:Int)<((w'.length+1:Nat):Int))=True:=eq_true (by rw[List.length_cons]at hln;omega)
    have li:((e:Int)<0)=False:=eq_false (by omega)
    have hb:(bs (c0::w')).data[e]? =some c:=by rw[←Array.getElem?_toList,DZ,←List.head?_drop,hl];rfl
    have hl':(c0::w').drop (e+1)=l:=by rw[←List.drop_drop,hl];rfl
    have we:IntKind.i64.wrap ((e:Int)+1)=((e+1:Nat):Int):=by rw[AW (by omega) (by omega)];omega
    have t1:IntKind.u8.wrap ((c.toNat:Int) - 48)=((c.toNat - 48:Nat):Int):=by rw[KY (by omega) (by omega)];omega
    have t2:IntKind.i64.wrap ((c.toNat - 48:Nat):Int)=((c.toNat - 48:Nat):Int):=AW (by omega) (by omega)
    have t3:IntKind.i64.wrap (((w'.length+1:Nat):Int) - 1)=((w'.length:Nat):Int):=by rw[AW (by omega) (by rw[List.length_cons]at h3;omega)];omega
    have t4:IntKind.i64.wrap (((w'.length:Nat):Int) - (e:Int))=((l.length:Nat):Int):=by rw[List.length_cons]at hln h3;rw[AW (by omega) (by omega)];omega
    have hu:=Ek l.length (by rw[List.length_cons]at hln h3;omega)
    have hP:100*10 ^ l.length≤10000:=by
     have:l.length≤2:=by rw[List.length_cons]at hln h3;omega
     have:=Nat.pow_le_pow_right (n:=10) (by decide) this
     omega
    obtain⟨p,hp9⟩: ∃p,100*10 ^ l.length=p:=⟨_,rfl⟩
    have hm:(c.toNat - 48)*p≤9*10000:=Nat.mul_le_mul (by omega) (by omega)
    rw[hp9]at hu
    have t5:IntKind.i64.wrap (((c.toNat - 48:Nat):Int)*(p:Int))=(((c.toNat - 48)*p:Nat):Int):=by rw[←Int.natCast_mul,AW (by omega) (by omega)]
    have hel:e≤3:=by omega
    have t6:IntKind.i64.wrap ((v:Int)+(((c.toNat - 48)*p:Nat):Int))=((v+(c.toNat - 48)*p:Nat):Int):=by rw[AW (by omega) (by omega)];omega
    refine AR.intro (by kernel_rfl) ?_
    intro ν fr
    simp only[AF,↓AE,simprocAttr,Ab,hlt,hb,we,t1,t2,t3,t4,t5,t6,hu]
    have hi9:v+(c.toNat - 48)*p+100*BW l 0=0+100*BW (c0::w') 0:=by
     rw[Fy,Nat.mul_add]at hinv
     rw[←hp9,←hinv,Nat.mul_left_comm]
     omega
    exact AR.weak (ih (e+1) (v+(c.toNat - 48)*p) (by omega) (by rw[Nat.add_mul];omega) hl' hi9) (by simp[Ah,AO]) (SubA.refl _)
  | some g=>
   simp only[Option.getD_some,Option.isSome_some]at cv af hfl
   simp only[UK,Bool.and_eq_true,decide_eq_true_eq,Bool.not_eq_true',decide_eq_false_iff_not]at hft
   obtain⟨hg2,hga,hgl⟩:=hft
   rw[hga]at af
   have h2':((2:Int)<(g.length:Int))=False:=eq_false (by omega)
   have hgl0:0<g.length:=by cases g with|nil=>cases hga|cons x y=>simp
   have ws:IntKind.i64.wrap ((g.length:Int) - 1)=((g.length - 1:Nat):Int):=by rw[AW (by omega) (by omega)];omega
   have lix:(((g.length - 1:Nat):Int)<0)=False:=eq_false (by omega)
   obtain⟨z,hz1⟩: ∃z,g.getLast? =some z:=⟨_,List.getLast?_eq_some_getLast (List.length_pos_iff.1 hgl0)⟩
   have hix:(bs g).data[g.length - 1]? =some z:=by rw[←Array.getElem?_toList,DZ,←List.getLast?_eq_getElem?];exact hz1
   have hz2:z≠48:=fun e=>hgl (by rw[hz1,e])
   have hz3:((z.toNat:Int)=48)=False:=eq_false fun h=>hz2 (by rw[←UInt8.toNat_inj];have:(48:UInt8).toNat=48:=rfl;omega)
   have hz4:((z.toNat:Int)==48)=false:=by simpa using of_eq_false hz3
   obtain⟨d0,g',hg⟩: ∃d0 g',g=d0::g':=by cases g with|nil=>cases hga|cons x y=>exact⟨x,y,rfl⟩
   have hgn:g.length=g'.length+1:=by rw[hg];rfl
   rw[hg]at hga
   have hd0:Ae d0.toNat=true:=by simp only[Gd,List.all_cons,Bool.and_eq_true]at hga;exact hga.2.1
   have j0:(bs g).data[0]? =some d0:=by rw[hg];rfl
   obtain⟨b1,b2⟩:=Bm hd0
   have s1:IntKind.u8.wrap ((d0.toNat:Int) - 48)=((d0.toNat - 48:Nat):Int):=by rw[KY (by omega) (by omega)];omega
   have s2:IntKind.i64.wrap ((d0.toNat - 48:Nat):Int)=((d0.toNat - 48:Nat):Int):=AW (by omega) (by omega)
   have s3:IntKind.i64.wrap (((d0.toNat - 48:Nat):Int)*10)=(((d0.toNat - 48)*10:Nat):Int):=by rw[AW (by omega) (by omega)];omega
   rcases Nat.eq_zero_or_pos g'.length with hg0|hg0
   ·have k2:((g.length:Int)=2)=False:=eq_false (by omega)
    have k2':((g.length:Int)==2)=false:=by simp;omega
    by_cases h3:3<(c0::w').length
    ·have h3':((3:Int)<((w'.length+1:Nat):Int))=True:=eq_true (by rw[List.length_cons]at h3;omega)
     rw[if_pos h3]
     simp only[AF,↓AE,simprocAttr,ne0,cs,cv,aw,Ab,hgx,h2',af,ws,hix,hz4,j0,s1,s2,s3,k2',h3']
    have h3':((3:Int)<((w'.length+1:Nat):Int))=False:=eq_false (by rw[List.length_cons]at h3;omega)
    rw[if_neg h3]
    simp only[AF,↓AE,simprocAttr,ne0,cs,cv,aw,Ab,hgx,h2',af,ws,hix,hz4,j0,s1,s2,s3,k2',h3']
    have hv0:Ob (some g)=((d0.toNat - 48)*10):=by rw[hg];have:g'=[]:=List.eq_nil_of_length_eq_zero hg0;rw[this];simp[Ob,Cv,BW]
    clear fr
    obtain⟨e,v,he,hv,hle,hvl,hinv⟩: ∃(e v:Nat),e=0∧v=((d0.toNat - 48)*10)∧e≤(c0::w').length∧v≤100+e*90000∧v+100*BW ((c0::w').drop e) 0=((d0.toNat - 48)*10)+100*BW (c0::w') 0:=⟨0,((d0.toNat - 48)*10),rfl,rfl,by omega,by omega,rfl⟩
    rw[show(75,some (Value.int .i64 0))=(75,some (Value.int .i64 (e:Int))) by rw[he];rfl,←hv]
    rw[hv0]
    clear he hv hv0
    generalize hl:(c0::w').drop e=l at hinv
    induction l generalizing e v with
    | nil=>
     have hn:e=(c0::w').length:=by have:=congrArg List.length hl;simp only[List.length_drop,List.length_nil,List.length_cons]at this hle ⊢;omega
     have hlt:((e:Int)<((w'.length+1:Nat):Int))=False:=eq_false (by rw[hn,List.length_cons];omega)
     have hve:v=Cv (c0::w')*100+((d0.toNat - 48)*10):=by unfold Cv;simp only[BW]at hinv ⊢;omega
     refine AR.intro (by kernel_rfl) ?_
     intro ν fr
     by_cases hbig:10000<Cv (c0::w')*100+((d0.toNat - 48)*10)
     ·have hb':((10000:Int)<(v:Int))=True:=eq_true (by omega)
      rw[if_pos hbig]
      simp only[AF,↓AE,simprocAttr,hlt,hb']
     ·have hb':((10000:Int)<(v:Int))=False:=eq_false (by omega)
      rw[if_neg hbig]
      simp only[AF,↓AE,simprocAttr,hlt,hb']
      rw[hve];try rfl
    | cons c l ih=>
     have hln:e+(l.length+1)=(c0::w').length:=by have:=congrArg List.length hl;simp only[List.length_drop,List.length_cons]at this ⊢;omega
     have hcd:Ae c.toNat=true:=List.all_eq_true.1 had c (List.mem_of_mem_drop (by rw[hl];exact List.mem_cons_self ..))
     obtain⟨b5,b6⟩:=Bm hcd
     have hlt:((e:Int)<((w'.length+1:Nat):Int))=True:=eq_true (by rw[List.length_cons]at hln;omega)
     have li:((e:Int)<0)=False:=eq_false (by omega)
     have hb:(bs (c0::w')).data[e]? =some c:=by rw[←Array.getElem?_toList,DZ,←List.head?_drop,hl];rfl
     have hl':(c0::w').drop (e+1)=l:=by rw[←List.drop_drop,hl];rfl
     have we:IntKind.i64.wrap ((e:Int)+1)=((e+1:Nat):Int):=by rw[AW (by omega) (by omega)];omega
     have t1:IntKind.u8.wrap ((c.toNat:Int) - 48)=((c.toNat - 48:Nat):Int):=by rw[KY (by omega) (by omega)];omega
     have t2:IntKind.i64.wrap ((c.toNat - 48:Nat):Int)=((c.toNat - 48:Nat):Int):=AW (by omega) (by omega)
     have t3:IntKind.i64.wrap (((w'.length+1:Nat):Int) - 1)=((w'.length:Nat):Int):=by rw[AW (by omega) (by rw[List.length_cons]at h3;omega)];omega
     have t4:IntKind.i64.wrap (((w'.length:Nat):Int) - (e:Int))=((l.length:Nat):Int):=by rw[List.length_cons]at hln h3;rw[AW (by omega) (by omega)];omega
     have hu:=Ek l.length (by rw[List.length_cons]at hln h3;omega)
     have hP:100*10 ^ l.length≤10000:=by
      have:l.length≤2:=by rw[List.length_cons]at hln h3;omega
      have:=Nat.pow_le_pow_right (n:=10) (by decide) this
      omega
     obtain⟨p,hp9⟩: ∃p,100*10 ^ l.length=p:=⟨_,rfl⟩
     have hm:(c.toNat - 48)*p≤9*10000:=Nat.mul_le_mul (by omega) (by omega)
     rw[hp9]at hu
     have t5:IntKind.i64.wrap (((c.toNat - 48:Nat):Int)*(p:Int))=(((c.toNat - 48)*p:Nat):Int):=by rw[←Int.natCast_mul,AW (by omega) (by omega)]
     have hel:e≤3:=by omega
     have t6:IntKind.i64.wrap ((v:Int)+(((c.toNat - 48)*p:Nat):Int))=((v+(c.toNat - 48)*p:Nat):Int):=by rw[AW (by omega) (by omega)];omega
     refine AR.intro (by kernel_rfl) ?_
     intro ν fr
     simp only[AF,↓AE,simprocAttr,Ab,hlt,hb,we,t1,t2,t3,t4,t5,t6,hu]
     have hi9:v+(c.toNat - 48)*p+100*BW l 0=((d0.toNat - 48)*10)+100*BW (c0::w') 0:=by
      rw[Fy,Nat.mul_add]at hinv
      rw[←hp9,←hinv,Nat.mul_left_comm]
      omega
     exact AR.weak (ih (e+1) (v+(c.toNat - 48)*p) (by omega) (by rw[Nat.add_mul];omega) hl' hi9) (by simp[Ah,AO]) (SubA.refl _)
   ·obtain⟨d1,hg1⟩: ∃d1,g'=[d1]:=List.length_eq_one_iff.1 (by omega)
    rw[hg1]at hga hg
    have k2:((g.length:Int)=2)=True:=eq_true (by omega)
    have k2':((g.length:Int)==2)=true:=by simp;omega
    have hd1:Ae d1.toNat=true:=by simp only[Gd,List.all_cons,Bool.and_eq_true]at hga;exact hga.2.2.1
    have j1:(bs g).data[1]? =some d1:=by rw[hg,←Array.getElem?_toList,DZ];rfl
    obtain⟨b3,b4⟩:=Bm hd1
    have s4:IntKind.u8.wrap ((d1.toNat:Int) - 48)=((d1.toNat - 48:Nat):Int):=by rw[KY (by omega) (by omega)];omega
    have s5:IntKind.i64.wrap ((d1.toNat - 48:Nat):Int)=((d1.toNat - 48:Nat):Int):=AW (by omega) (by omega)
    have s6:IntKind.i64.wrap ((((d0.toNat - 48)*10:Nat):Int)+((d1.toNat - 48:Nat):Int))=(((d0.toNat - 48)*10+(d1.toNat - 48):Nat):Int):=by rw[AW (by omega) (by omega)];omega
    by_cases h3:3<(c0::w').length
    ·have h3':((3:Int)<((w'.length+1:Nat):Int))=True:=eq_true (by rw[List.length_cons]at h3;omega)
     rw[if_pos h3]
     simp only[AF,↓AE,simprocAttr,ne0,cs,cv,aw,Ab,hgx,h2',af,ws,hix,hz4,j0,j1,s1,s2,s3,s4,s5,s6,k2',h3']
    have h3':((3:Int)<((w'.length+1:Nat):Int))=False:=eq_false (by rw[List.length_cons]at h3;omega)
    rw[if_neg h3]
    simp only[AF,↓AE,simprocAttr,ne0,cs,cv,aw,Ab,hgx,h2',af,ws,hix,hz4,j0,j1,s1,s2,s3,s4,s5,s6,k2',h3']
    have hv0:Ob (some g)=((d0.toNat - 48)*10+(d1.toNat - 48)):=by rw[hg];simp[Ob,Cv,BW];omega
    clear fr
    obtain⟨e,v,he,hv,hle,hvl,hinv⟩: ∃(e v:Nat),e=0∧v=((d0.toNat - 48)*10+(d1.toNat - 48))∧e≤(c0::w').length∧v≤100+e*90000∧v+100*BW ((c0::w').drop e) 0=((d0.toNat - 48)*10+(d1.toNat - 48))+100*BW (c0::w') 0:=⟨0,((d0.toNat - 48)*10+(d1.toNat - 48)),rfl,rfl,by omega,by omega,rfl⟩
    rw[show(75,some (Value.int .i64 0))=(75,some (Value.int .i64 (e:Int))) by rw[he];rfl,←hv]
    rw[hv0]
    clear he hv hv0
    generalize hl:(c0::w').drop e=l at hinv
    induction l generalizing e v with
    | nil=>
     have hn:e=(c0::w').length:=by have:=congrArg List.length hl;simp only[List.length_drop,List.length_nil,List.length_cons]at this hle ⊢;omega
     have hlt:((e:Int)<((w'.length+1:Nat):Int))=False:=eq_false (by rw[hn,List.length_cons];omega)
     have hve:v=Cv (c0::w')*100+((d0.toNat - 48)*10+(d1.toNat - 48)):=by unfold Cv;simp only[BW]at hinv ⊢;omega
     refine AR.intro (by kernel_rfl) ?_
     intro ν fr
     by_cases hbig:10000<Cv (c0::w')*100+((d0.toNat - 48)*10+(d1.toNat - 48))
     ·have hb':((10000:Int)<(v:Int))=True:=eq_true (by omega)
      rw[if_pos hbig]
      simp only[AF,↓AE,simprocAttr,hlt,hb']
     ·have hb':((10000:Int)<(v:Int))=False:=eq_false (by omega)
      rw[if_neg hbig]
      simp only[AF,↓AE,simprocAttr,hlt,hb']
      rw[hve];try rfl
    | cons c l ih=>
     have hln:e+(l.length+1)=(c0::w').length:=by have:=congrArg List.length hl;simp only[List.length_drop,List.length_cons]at this ⊢;omega
     have hcd:Ae c.toNat=true:=List.all_eq_true.1 had c (List.mem_of_mem_drop (by rw[hl];exact List.mem_cons_self ..))
     obtain⟨b5,b6⟩:=Bm hcd
     have hlt:((e:Int)<((w'.length+1:Nat):Int))=True:=eq_true (by rw[List.length_cons]at hln;omega)
     have li:((e:Int)<0)=False:=eq_false (by omega)
     have hb:(bs (c0::w')).data[e]? =some c:=by rw[←Array.getElem?_toList,DZ,←List.head?_drop,hl];rfl
     have hl':(c0::w').drop (e+1)=l:=by rw[←List.drop_drop,hl];rfl
     have we:IntKind.i64.wrap ((e:Int)+1)=((e+1:Nat):Int):=by rw[AW (by omega) (by omega)];omega
     have t1:IntKind.u8.wrap ((c.toNat:Int) - 48)=((c.toNat - 48:Nat):Int):=by rw[KY (by omega) (by omega)];omega
     have t2:IntKind.i64.wrap ((c.toNat - 48:Nat):Int)=((c.toNat - 48:Nat):Int):=AW (by omega) (by omega)
     have t3:IntKind.i64.wrap (((w'.length+1:Nat):Int) - 1)=((w'.length:Nat):Int):=by rw[AW (by omega) (by rw[List.length_cons]at h3;omega)];omega
     have t4:IntKind.i64.wrap (((w'.length:Nat):Int) - (e:Int))=((l.length:Nat):Int):=by rw[List.length_cons]at hln h3;rw[AW (by omega) (by omega)];omega
     have hu:=Ek l.length (by rw[List.length_cons]at hln h3;omega)
     have hP:100*10 ^ l.length≤10000:=by
      have:l.length≤2:=by rw[List.length_cons]at hln h3;omega
      have:=Nat.pow_le_pow_right (n:=10) (by decide) this
      omega
     obtain⟨p,hp9⟩: ∃p,100*10 ^ l.length=p:=⟨_,rfl⟩
     have hm:(c.toNat - 48)*p≤9*10000:=Nat.mul_le_mul (by omega) (by omega)
     rw[hp9]at hu
     have t5:IntKind.i64.wrap (((c.toNat - 48:Nat):Int)*(p:Int))=(((c.toNat - 48)*p:Nat):Int):=by rw[←Int.natCast_mul,AW (by omega) (by omega)]
     have hel:e≤3:=by omega
     have t6:IntKind.i64.wrap ((v:Int)+(((c.toNat - 48)*p:Nat):Int))=((v+(c.toNat - 48)*p:Nat):Int):=by rw[AW (by omega) (by omega)];omega
     refine AR.intro (by kernel_rfl) ?_
     intro ν fr
     simp only[AF,↓AE,simprocAttr,Ab,hlt,hb,we,t1,t2,t3,t4,t5,t6,hu]
     have hi9:v+(c.toNat - 48)*p+100*BW l 0=((d0.toNat - 48)*10+(d1.toNat - 48))+100*BW (c0::w') 0:=by
      rw[Fy,Nat.mul_add]at hinv
      rw[←hp9,←hinv,Nat.mul_left_comm]
      omega
     exact AR.weak (ih (e+1) (v+(c.toNat - 48)*p) (by omega) (by rw[Nat.add_mul];omega) hl' hi9) (by simp[Ah,AO]) (SubA.refl _)
 ·have hgx:((1:Int)<((w'.length+1:Nat):Int))=True:=eq_true (by omega)
  have h48:(c0=48)=False:=eq_false fun e=>hz ⟨hw0,e⟩
  by_cases hf:UK f=false
  ·have hr:Su (c0::w') f=(0,2):=by unfold Su;rw[if_neg (by rw[hp];simp),if_pos hf]
   rw[hr]
   cases f with
   |none=>cases hf
   | some g=>
    simp only[Option.getD_some,Option.isSome_some]at cv af hfl
    by_cases h2:2<g.length
    ·have h2':((2:Int)<(g.length:Int))=True:=eq_true (by omega)
     simp only[AF,↓AE,simprocAttr,ne0,cs,cv,aw,Ab,hgx,i0,e48',h48,h2']
    have h2':((2:Int)<(g.length:Int))=False:=eq_false (by omega)
    cases hg:Gd g with
    |false=>
     rw[hg]at af
     simp only[AF,↓AE,simprocAttr,ne0,cs,cv,aw,Ab,hgx,i0,e48',h48,h2',af]
    | true=>
     rw[hg]at af
     have hlast:g.getLast? =some 48:=by
      simp only[UK,hg,Bool.true_and,Bool.and_eq_false_iff,decide_eq_false_iff_not,Bool.not_eq_false',decide_eq_true_eq]at hf
      exact hf.resolve_left fun h=>h (by omega)
     have hgl:0<g.length:=by cases g with|nil=>cases hg|cons x y=>simp
     have ws:IntKind.i64.wrap ((g.length:Int) - 1)=((g.length - 1:Nat):Int):=by rw[AW (by omega) (by omega)];omega
     have hix:(bs g).data[g.length - 1]? =some 48:=by rw[←Array.getElem?_toList,DZ,←List.getLast?_eq_getElem?];exact hlast
     have lix:(((g.length - 1:Nat):Int)<0)=False:=eq_false (by omega)
     simp only[AF,↓AE,simprocAttr,ne0,cs,cv,aw,Ab,hgx,i0,e48',h48,h2',af,ws,hix]
     first|done|rfl|trace_state
  have hft:UK f=true:=by simpa using hf
  have hr:Su (c0::w') f=if 3<(c0::w').length then((0:Int),(4:Int))else if 10000<Cv (c0::w')*100+Ob f then(0,4)else(((Cv (c0::w')*100+Ob f:Nat):Int),0):=by unfold Su;rw[if_neg (by rw[hp];simp),if_neg hf]
  rw[hr]
  clear hr hf
  cases f with
  | none=>
   simp only[Option.getD_none,Option.isSome_none]at cv
   by_cases h3:3<(c0::w').length
   ·have h3':((3:Int)<((w'.length+1:Nat):Int))=True:=eq_true (by rw[List.length_cons]at h3;omega)
    rw[if_pos h3]
    simp only[AF,↓AE,simprocAttr,Do,ne0,cs,cv,aw,Ab,hgx,i0,e48',h48,h3']
   have h3':((3:Int)<((w'.length+1:Nat):Int))=False:=eq_false (by rw[List.length_cons]at h3;omega)
   rw[if_neg h3]
   simp only[AF,↓AE,simprocAttr,Do,ne0,cs,cv,aw,Ab,hgx,i0,e48',h48,h3']
   have hv0:Ob none=0:=by rfl
   clear fr
   obtain⟨e,v,he,hv,hle,hvl,hinv⟩: ∃(e v:Nat),e=0∧v=0∧e≤(c0::w').length∧v≤100+e*90000∧v+100*BW ((c0::w').drop e) 0=0+100*BW (c0::w') 0:=⟨0,0,rfl,rfl,by omega,by omega,rfl⟩
   rw[show(75,some (Value.int .i64 0))=(75,some (Value.int .i64 (e:Int))) by rw[he];rfl,show(9,some (Value.int .i64 0))=(9,some (Value.int .i64 (v:Int))) by rw[hv];rfl]
   rw[hv0]
   clear he hv hv0
   generalize hl:(c0::w').drop e=l at hinv
   induction l generalizing e v with
   | nil=>
    have hn:e=(c0::w').length:=by have:=congrArg List.length hl;simp only[List.length_drop,List.length_nil,List.length_cons]at this hle ⊢;omega
    have hlt:((e:Int)<((w'.length+1:Nat):Int))=False:=eq_false (by rw[hn,List.length_cons];omega)
    have hve:v=Cv (c0::w')*100+0:=by unfold Cv;simp only[BW]at hinv ⊢;omega
    refine AR.intro (by kernel_rfl) ?_
    intro ν fr
    by_cases hbig:10000<Cv (c0::w')*100+0
    ·have hb':((10000:Int)<(v:Int))=True:=eq_true (by omega)
     rw[if_pos hbig]
     simp only[AF,↓AE,simprocAttr,hlt,hb']
    ·have hb':((10000:Int)<(v:Int))=False:=eq_false (by omega)
     rw[if_neg hbig]
     simp only[AF,↓AE,simprocAttr,hlt,hb']
     rw[hve];try rfl
   | cons c l ih=>
    have hln:e+(l.length+1)=(c0::w').length:=by have:=congrArg List.length hl;simp only[List.length_drop,List.length_cons]at this ⊢;omega
    have hcd:Ae c.toNat=true:=List.all_eq_true.1 had c (List.mem_of_mem_drop (by rw[hl];exact List.mem_cons_self ..))
    obtain⟨b5,b6⟩:=Bm hcd
    have hlt:((e:Int)<((w'.length+1:Nat):Int))=True:=eq_true (by rw[List.length_cons]at hln;omega)
    have li:((e:Int)<0)=False:=eq_false (by omega)
    have hb:(bs (c0::w')).data[e]? =some c:=by rw[←Array.getElem?_toList,DZ,←List.head?_drop,hl];rfl
    have hl':(c0::w').drop (e+1)=l:=by rw[←List.drop_drop,hl];rfl
    have we:IntKind.i64.wrap ((e:Int)+1)=((e+1:Nat):Int):=by rw[AW (by omega) (by omega)];omega
    have t1:IntKind.u8.wrap ((c.toNat:Int) - 48)=((c.toNat - 48:Nat):Int):=by rw[KY (by omega) (by omega)];omega
    have t2:IntKind.i64.wrap ((c.toNat - 48:Nat):Int)=((c.toNat - 48:Nat):Int):=AW (by omega) (by omega)
    have t3:IntKind.i64.wrap (((w'.length+1:Nat):Int) - 1)=((w'.length:Nat):Int):=by rw[AW (by omega) (by rw[List.length_cons]at h3;omega)];omega
    have t4:IntKind.i64.wrap (((w'.length:Nat):Int) - (e:Int))=((l.length:Nat):Int):=by rw[List.length_cons]at hln h3;rw[AW (by omega) (by omega)];omega
    have hu:=Ek l.length (by rw[List.length_cons]at hln h3;omega)
    have hP:100*10 ^ l.length≤10000:=by
     have:l.length≤2:=by rw[List.length_cons]at hln h3;omega
     have:=Nat.pow_le_pow_right (n:=10) (by decide) this
     omega
    obtain⟨p,hp9⟩: ∃p,100*10 ^ l.length=p:=⟨_,rfl⟩
    have hm:(c.toNat - 48)*p≤9*10000:=Nat.mul_le_mul (by omega) (by omega)
    rw[hp9]at hu
    have t5:IntKind.i64.wrap (((c.toNat - 48:Nat):Int)*(p:Int))=(((c.toNat - 48)*p:Nat):Int):=by rw[←Int.natCast_mul,AW (by omega) (by omega)]
    have hel:e≤3:=by omega
    have t6:IntKind.i64.wrap ((v:Int)+(((c.toNat - 48)*p:Nat):Int))=((v+(c.toNat - 48)*p:Nat):Int):=by rw[AW (by omega) (by omega)];omega
    refine AR.intro (by kernel_rfl) ?_
    intro ν fr
    simp only[AF,↓AE,simprocAttr,Ab,hlt,hb,we,t1,t2,t3,t4,t5,t6,hu]
    have hi9:v+(c.toNat - 48)*p+100*BW l 0=0+100*BW (c0::w') 0:=by
     rw[Fy,Nat.mul_add]at hinv
     rw[←hp9,←hinv,Nat.mul_left_comm]
     omega
    exact AR.weak (ih (e+1) (v+(c.toNat - 48)*p) (by omega) (by rw[Nat.add_mul];omega) hl' hi9) (by simp[Ah,AO]) (SubA.refl _)
  | some g=>
   simp only[Option.getD_some,Option.isSome_some]at cv af hfl
   simp only[UK,Bool.and_eq_true,decide_eq_true_eq,Bool.not_eq_true',decide_eq_false_iff_not]at hft
   obtain⟨hg2,hga,hgl⟩:=hft
   rw[hga]at af
   have h2':((2:Int)<(g.length:Int))=False:=eq_false (by omega)
   have hgl0:0<g.length:=by cases g with|nil=>cases hga|cons x y=>simp
   have ws:IntKind.i64.wrap ((g.length:Int) - 1)=((g.length - 1:Nat):Int):=by rw[AW (by omega) (by omega)];omega
   have lix:(((g.length - 1:Nat):Int)<0)=False:=eq_false (by omega)
   obtain⟨z,hz1⟩: ∃z,g.getLast? =some z:=⟨_,List.getLast?_eq_some_getLast (List.length_pos_iff.1 hgl0)⟩
   have hix:(bs g).data[g.length - 1]? =some z:=by rw[←Array.getElem?_toList,DZ,←List.getLast?_eq_getElem?];exact hz1
   have hz2:z≠48:=fun e=>hgl (by rw[hz1,e])
   have hz3:((z.toNat:Int)=48)=False:=eq_false fun h=>hz2 (by rw[←UInt8.toNat_inj];have:(48:UInt8).toNat=48:=rfl;omega)
   have hz4:((z.toNat:Int)==48)=false:=by simpa using of_eq_false hz3
   obtain⟨d0,g',hg⟩: ∃d0 g',g=d0::g':=by cases g with|nil=>cases hga|cons x y=>exact⟨x,y,rfl⟩
   have hgn:g.length=g'.length+1:=by rw[hg];rfl
   rw[hg]at hga
   have hd0:Ae d0.toNat=true:=by simp only[Gd,List.all_cons,Bool.and_eq_true]at hga;exact hga.2.1
   have j0:(bs g).data[0]? =some d0:=by rw[hg];rfl
   obtain⟨b1,b2⟩:=Bm hd0
   have s1:IntKind.u8.wrap ((d0.toNat:Int) - 48)=((d0.toNat - 48:Nat):Int):=by rw[KY (by omega) (by omega)];omega
   have s2:IntKind.i64.wrap ((d0.toNat - 48:Nat):Int)=((d0.toNat - 48:Nat):Int):=AW (by omega) (by omega)
   have s3:IntKind.i64.wrap (((d0.toNat - 48:Nat):Int)*10)=(((d0.toNat - 48)*10:Nat):Int):=by rw[AW (by omega) (by omega)];omega
   rcases Nat.eq_zero_or_pos g'.length with hg0|hg0
   ·have k2:((g.length:Int)=2)=False:=eq_false (by omega)
    have k2':((g.length:Int)==2)=false:=by simp;omega
    by_cases h3:3<(c0::w').length
    ·have h3':((3:Int)<((w'.length+1:Nat):Int))=True:=eq_true (by rw[List.length_cons]at h3;omega)
     rw[if_pos h3]
     simp only[AF,↓AE,simprocAttr,ne0,cs,cv,aw,Ab,hgx,i0,e48',h48,h2',af,ws,hix,hz4,j0,s1,s2,s3,k2',h3']
    have h3':((3:Int)<((w'.length+1:Nat):Int))=False:=eq_false (by rw[List.length_cons]at h3;omega)
    rw[if_neg h3]
    simp only[AF,↓AE,simprocAttr,ne0,cs,cv,aw,Ab,hgx,i0,e48',h48,h2',af,ws,hix,hz4,j0,s1,s2,s3,k2',h3']
    have hv0:Ob (some g)=((d0.toNat - 48)*10):=by rw[hg];have:g'=[]:=List.eq_nil_of_length_eq_zero hg0;rw[this];simp[Ob,Cv,BW]
    clear fr
    obtain⟨e,v,he,hv,hle,hvl,hinv⟩: ∃(e v:Nat),e=0∧v=((d0.toNat - 48)*10)∧e≤(c0::w').length∧v≤100+e*90000∧v+100*BW ((c0::w').drop e) 0=((d0.toNat - 48)*10)+100*BW (c0::w') 0:=⟨0,((d0.toNat - 48)*10),rfl,rfl,by omega,by omega,rfl⟩
    rw[show(75,some (Value.int .i64 0))=(75,some (Value.int .i64 (e:Int))) by rw[he];rfl,←hv]
    rw[hv0]
    clear he hv hv0
    generalize hl:(c0::w').drop e=l at hinv
    induction l generalizing e v with
    | nil=>
     have hn:e=(c0::w').length:=by have:=congrArg List.length hl;simp only[List.length_drop,List.length_nil,List.length_cons]at this hle ⊢;omega
     have hlt:((e:Int)<((w'.length+1:Nat):Int))=False:=eq_false (by rw[hn,List.length_cons];omega)
     have hve:v=Cv (c0::w')*100+((d0.toNat - 48)*10):=by unfold Cv;simp only[BW]at hinv ⊢;omega
     refine AR.intro (by kernel_rfl) ?_
     intro ν fr
     by_cases hbig:10000<Cv (c0::w')*100+((d0.toNat - 48)*10)
     ·have hb':((10000:Int)<(v:Int))=True:=eq_true (by omega)
      rw[if_pos hbig]
      simp only[AF,↓AE,simprocAttr,hlt,hb']
     ·have hb':((10000:Int)<(v:Int))=False:=eq_false (by omega)
      rw[if_neg hbig]
      simp only[AF,↓AE,simprocAttr,hlt,hb']
      rw[hve];try rfl
    | cons c l ih=>
     have hln:e+(l.length+1)=(c0::w').length:=by have:=congrArg List.length hl;simp only[List.length_drop,List.length_cons]at this ⊢;omega
     have hcd:Ae c.toNat=true:=List.all_eq_true.1 had c (List.mem_of_mem_drop (by rw[hl];exact List.mem_cons_self ..))
     obtain⟨b5,b6⟩:=Bm hcd
     have hlt:((e:Int)<((w'.length+1:Nat):Int))=True:=eq_true (by rw[List.length_cons]at hln;omega)
     have li:((e:Int)<0)=False:=eq_false (by omega)
     have hb:(bs (c0::w')).data[e]? =some c:=by rw[←Array.getElem?_toList,DZ,←List.head?_drop,hl];rfl
     have hl':(c0::w').drop (e+1)=l:=by rw[←List.drop_drop,hl];rfl
     have we:IntKind.i64.wrap ((e:Int)+1)=((e+1:Nat):Int):=by rw[AW (by omega) (by omega)];omega
     have t1:IntKind.u8.wrap ((c.toNat:Int) - 48)=((c.toNat - 48:Nat):Int):=by rw[KY (by omega) (by omega)];omega
     have t2:IntKind.i64.wrap ((c.toNat - 48:Nat):Int)=((c.toNat - 48:Nat):Int):=AW (by omega) (by omega)
     have t3:IntKind.i64.wrap (((w'.length+1:Nat):Int) - 1)=((w'.length:Nat):Int):=by rw[AW (by omega) (by rw[List.length_cons]at h3;omega)];omega
     have t4:IntKind.i64.wrap (((w'.length:Nat):Int) - (e:Int))=((l.length:Nat):Int):=by rw[List.length_cons]at hln h3;rw[AW (by omega) (by omega)];omega
     have hu:=Ek l.length (by rw[List.length_cons]at hln h3;omega)
     have hP:100*10 ^ l.length≤10000:=by
      have:l.length≤2:=by rw[List.length_cons]at hln h3;omega
      have:=Nat.pow_le_pow_right (n:=10) (by decide) this
      omega
     obtain⟨p,hp9⟩: ∃p,100*10 ^ l.length=p:=⟨_,rfl⟩
     have hm:(c.toNat - 48)*p≤9*10000:=Nat.mul_le_mul (by omega) (by omega)
     rw[hp9]at hu
     have t5:IntKind.i64.wrap (((c.toNat - 48:Nat):Int)*(p:Int))=(((c.toNat - 48)*p:Nat):Int):=by rw[←Int.natCast_mul,AW (by omega) (by omega)]
     have hel:e≤3:=by omega
     have t6:IntKind.i64.wrap ((v:Int)+(((c.toNat - 48)*p:Nat):Int))=((v+(c.toNat - 48)*p:Nat):Int):=by rw[AW (by omega) (by omega)];omega
     refine AR.intro (by kernel_rfl) ?_
     intro ν fr
     simp only[AF,↓AE,simprocAttr,Ab,hlt,hb,we,t1,t2,t3,t4,t5,t6,hu]
     have hi9:v+(c.toNat - 48)*p+100*BW l 0=((d0.toNat - 48)*10)+100*BW (c0::w') 0:=by
      rw[Fy,Nat.mul_add]at hinv
      rw[←hp9,←hinv,Nat.mul_left_comm]
      omega
     exact AR.weak (ih (e+1) (v+(c.toNat - 48)*p) (by omega) (by rw[Nat.add_mul];omega) hl' hi9) (by simp[Ah,AO]) (SubA.refl _)
   ·obtain⟨d1,hg1⟩: ∃d1,g'=[d1]:=List.length_eq_one_iff.1 (by omega)
    rw[hg1]at hga hg
    have k2:((g.length:Int)=2)=True:=eq_true (by omega)
    have k2':((g.length:Int)==2)=true:=by simp;omega
    have hd1:Ae d1.toNat=true:=by simp only[Gd,List.all_cons,Bool.and_eq_true]at hga;exact hga.2.2.1
    have j1:(bs g).data[1]? =some d1:=by rw[hg,←Array.getElem?_toList,DZ];rfl
    obtain⟨b3,b4⟩:=Bm hd1
    have s4:IntKind.u8.wrap ((d1.toNat:Int) - 48)=((d1.toNat - 48:Nat):Int):=by rw[KY (by omega) (by omega)];omega
    have s5:IntKind.i64.wrap ((d1.toNat - 48:Nat):Int)=((d1.toNat - 48:Nat):Int):=AW (by omega) (by omega)
    have s6:IntKind.i64.wrap ((((d0.toNat - 48)*10:Nat):Int)+((d1.toNat - 48:Nat):Int))=(((d0.toNat - 48)*10+(d1.toNat - 48):Nat):Int):=by rw[AW (by omega) (by omega)];omega
    by_cases h3:3<(c0::w').length
    ·have h3':((3:Int)<((w'.length+1:Nat):Int))=True:=eq_true (by rw[List.length_cons]at h3;omega)
     rw[if_pos h3]
     simp only[AF,↓AE,simprocAttr,ne0,cs,cv,aw,Ab,hgx,i0,e48',h48,h2',af,ws,hix,hz4,j0,j1,s1,s2,s3,s4,s5,s6,k2',h3']
    have h3':((3:Int)<((w'.length+1:Nat):Int))=False:=eq_false (by rw[List.length_cons]at h3;omega)
    rw[if_neg h3]
    simp only[AF,↓AE,simprocAttr,ne0,cs,cv,aw,Ab,hgx,i0,e48',h48,h2',af,ws,hix,hz4,j0,j1,s1,s2,s3,s4,s5,s6,k2',h3']
    have hv0:Ob (some g)=((d0.toNat - 48)*10+(d1.toNat - 48)):=by rw[hg];simp[Ob,Cv,BW];omega
    clear fr
    obtain⟨e,v,he,hv,hle,hvl,hinv⟩: ∃(e v:Nat),e=0∧v=((d0.toNat - 48)*10+(d1.toNat - 48))∧e≤(c0::w').length∧v≤100+e*90000∧v+100*BW ((c0::w').drop e) 0=((d0.toNat - 48)*10+(d1.toNat - 48))+100*BW (c0::w') 0:=⟨0,((d0.toNat - 48)*10+(d1.toNat - 48)),rfl,rfl,by omega,by omega,rfl⟩
    rw[show(75,some (Value.int .i64 0))=(75,some (Value.int .i64 (e:Int))) by rw[he];rfl,←hv]
    rw[hv0]
    clear he hv hv0
    generalize hl:(c0::w').drop e=l at hinv
    induction l generalizing e v with
    | nil=>
     have hn:e=(c0::w').length:=by have:=congrArg List.length hl;simp only[List.length_drop,List.length_nil,List.length_cons]at this hle ⊢;omega
     have hlt:((e:Int)<((w'.length+1:Nat):Int))=False:=eq_false (by rw[hn,List.length_cons];omega)
     have hve:v=Cv (c0::w')*100+((d0.toNat - 48)*10+(d1.toNat - 48)):=by unfold Cv;simp only[BW]at hinv ⊢;omega
     refine AR.intro (by kernel_rfl) ?_
     intro ν fr
     by_cases hbig:10000<Cv (c0::w')*100+((d0.toNat - 48)*10+(d1.toNat - 48))
     ·have hb':((10000:Int)<(v:Int))=True:=eq_true (by omega)
      rw[if_pos hbig]
      simp only[AF,↓AE,simprocAttr,hlt,hb']
     ·have hb':((10000:Int)<(v:Int))=False:=eq_false (by omega)
      rw[if_neg hbig]
      simp only[AF,↓AE,simprocAttr,hlt,hb']
      rw[hve];try rfl
    | cons c l ih=>
     have hln:e+(l.length+1)=(c0::w').length:=by have:=congrArg List.length hl;simp only[List.length_drop,List.length_cons]at this ⊢;omega
     have hcd:Ae c.toNat=true:=List.all_eq_true.1 had c (List.mem_of_mem_drop (by rw[hl];exact List.mem_cons_self ..))
     obtain⟨b5,b6⟩:=Bm hcd
     have hlt:((e:Int)<((w'.length+1:Nat):Int))=True:=eq_true (by rw[List.length_cons]at hln;omega)
     have li:((e:Int)<0)=False:=eq_false (by omega)
     have hb:(bs (c0::w')).data[e]? =some c:=by rw[←Array.getElem?_toList,DZ,←List.head?_drop,hl];rfl
     have hl':(c0::w').drop (e+1)=l:=by rw[←List.drop_drop,hl];rfl
     have we:IntKind.i64.wrap ((e:Int)+1)=((e+1:Nat):Int):=by rw[AW (by omega) (by omega)];omega
     have t1:IntKind.u8.wrap ((c.toNat:Int) - 48)=((c.toNat - 48:Nat):Int):=by rw[KY (by omega) (by omega)];omega
     have t2:IntKind.i64.wrap ((c.toNat - 48:Nat):Int)=((c.toNat - 48:Nat):Int):=AW (by omega) (by omega)
     have t3:IntKind.i64.wrap (((w'.length+1:Nat):Int) - 1)=((w'.length:Nat):Int):=by rw[AW (by omega) (by rw[List.length_cons]at h3;omega)];omega
     have t4:IntKind.i64.wrap (((w'.length:Nat):Int) - (e:Int))=((l.length:Nat):Int):=by rw[List.length_cons]at hln h3;rw[AW (by omega) (by omega)];omega
     have hu:=Ek l.length (by rw[List.length_cons]at hln h3;omega)
     have hP:100*10 ^ l.length≤10000:=by
      have:l.length≤2:=by rw[List.length_cons]at hln h3;omega
      have:=Nat.pow_le_pow_right (n:=10) (by decide) this
      omega
     obtain⟨p,hp9⟩: ∃p,100*10 ^ l.length=p:=⟨_,rfl⟩
     have hm:(c.toNat - 48)*p≤9*10000:=Nat.mul_le_mul (by omega) (by omega)
     rw[hp9]at hu
     have t5:IntKind.i64.wrap (((c.toNat - 48:Nat):Int)*(p:Int))=(((c.toNat - 48)*p:Nat):Int):=by rw[←Int.natCast_mul,AW (by omega) (by omega)]
     have hel:e≤3:=by omega
     have t6:IntKind.i64.wrap ((v:Int)+(((c.toNat - 48)*p:Nat):Int))=((v+(c.toNat - 48)*p:Nat):Int):=by rw[AW (by omega) (by omega)];omega
     refine AR.intro (by kernel_rfl) ?_
     intro ν fr
     simp only[AF,↓AE,simprocAttr,Ab,hlt,hb,we,t1,t2,t3,t4,t5,t6,hu]
     have hi9:v+(c.toNat - 48)*p+100*BW l 0=((d0.toNat - 48)*10+(d1.toNat - 48))+100*BW (c0::w') 0:=by
      rw[Fy,Nat.mul_add]at hinv
      rw[←hp9,←hinv,Nat.mul_left_comm]
      omega
     exact AR.weak (ih (e+1) (v+(c.toNat - 48)*p) (by omega) (by rw[Nat.add_mul];omega) hl' hi9) (by simp[Ah,AO]) (SubA.refl _)
theorem Nz(s:ByteArray)(hs:s.size≤100000)(A_:AH):Ag Tryz.prog 83 #[.string s] A_=some (.tuple #[.int .i64 (Ny s.toList).1,.int .i64 (Ny s.toList).2]):=AX (BD (by kernel_rfl) (qz s hs))
set_option maxHeartbeats 1000000
set_option maxRecDepth 20000
def Dv(A:AH):Prop:= ∃(g:Nat) (e:TypeId) (fr:Nat×Nat),Tryz.prog.globalNamed "internal/strconv.uint64pow10" =some g∧Vm.AA A g=some (.cells (Lib.pow10Tab.map fun z=>Value.int .u64 z).toArray e fr)
theorem Dv.mono{A B:AH}(h:Dv A)(hs:SubA A B):Dv B:=by
 obtain⟨g,e,fr,h1,h2⟩:=h
 exact⟨g,e,fr,h1,hs _ _ h2⟩
theorem Dv.of{w:World}(h:Lib.TabIs Tryz.prog w "internal/strconv.uint64pow10" .u64 Lib.pow10Tab): ∃A,CQ A w.heap∧Dv A:=by
 unfold Lib.TabIs World.var? at h
 cases hg:Tryz.prog.globalNamed "internal/strconv.uint64pow10" with
 |none=>rw[hg]at h;cases h
 | some g=>
  rw[hg]at h
  simp only[Option.bind_some]at h
  split at h
  ·rename_i cs e fr hb
   cases h
   exact⟨[(g,.cells _ e fr)],(fun b o hl=>by
    simp only[Vm.AA]at hl
    split at hl
    ·rename_i e1;subst e1;cases hl;exact hb
    ·cases hl),g,e,fr,hg,by simp[Vm.AA]⟩
  ·cases h
theorem SM(A:AH)(hT:Dv A)(n:Int)(h0: -9223372036854775808≤n)(h1:n≤9223372036854775807)(B:AH)(hB:SubA A B):Ag Tryz.prog 74 #[.int .i64 n] B=some (.string (bs (Lib.itoa n))):=
 AX ⟨fun _=>by kernel_rfl,fun h hs=>by
  unfold Di
  rw[if_pos (by kernel_rfl)]
  intro w hw
  subst hw
  have ht:Lib.TabIs Tryz.prog w "internal/strconv.uint64pow10" .u64 Lib.pow10Tab:=by
   obtain⟨g,e,fr,hg,hl⟩:=hT
   have:=hs _ _ (hB _ _ hl)
   unfold Lib.TabIs World.var?
   rw[hg]
   simp[this]
  refine(Tryz.strconv_Itoa n h0 h1 w ht).mono fun e w' ⟨he,k,os,hw'⟩=> ?_
  subst hw'
  exact⟨⟨he,⟨by simp[Go.Sort.grow,World.drewN],fun j hj=>by simp only[Go.Sort.grow,World.drewN];exact Array.getElem?_append_left hj⟩⟩,rfl,rfl,rfl⟩⟩
set_option maxHeartbeats 4000000
set_option maxRecDepth 20000
theorem FO{n:Int}(h1: -9223372036854775808≤n)(h2:n≤9223372036854775807):(Lib.itoa n).length≤20:=by
 unfold Lib.itoa
 split
 ·have:=HD 19 n.natAbs (by omega) (by omega)
  simp;omega
 ·have:=HD 19 n.toNat (by omega) (by omega)
  omega
def Nw(n:Int):List UInt8:=Lib.itoa (n / 100)++((if n % 100=0 then []else 46::(Lib.itoa (n % 100 / 10)++(if n % 10=0 then []else Lib.itoa (n % 10))))++[37])
def nG(n:Int):List UInt8:=if n<0∨10000<n then []else Nw n
theorem nK(A:AH)(hT:Dv A)(n:Int):AK Tryz.prog 39 #[.int .i64 n] A (fun u_ A_=>u_=.string (bs (nG n))∧SubA A A_):=by
 refine AC ⟨Tryz.prog,39,Tryz.f39,34,[0,2,3,4],⟨[],none⟩,[],_⟩ rfl (args:=[_]) Tryz.func39 rfl (by kernel_rfl) Tryz.ntmps39 (by simp) (by kernel_rfl) ?_
 intro ν fr
 by_cases h1:n<0
 ·have hr:nG n=[]:=if_pos (.inl h1)
  rw[hr]
  simp only[AF,↓AE,simprocAttr,eq_true h1]
  rfl
 by_cases h2:10000<n
 ·have hr:nG n=[]:=if_pos (.inr h2)
  rw[hr]
  simp only[AF,↓AE,simprocAttr,eq_false h1,eq_true h2]
  rfl
 have hr:nG n=Nw n:=if_neg (by omega)
 rw[hr]
 have d1:IntKind.i64.wrap (n.tdiv 100)=n / 100:=by rw[Int.tdiv_eq_ediv_of_nonneg (by omega),AW (by omega) (by omega)]
 have m1:n.tmod 100=n % 100:=Int.tmod_eq_emod_of_nonneg (by omega)
 have d2:IntKind.i64.wrap ((n % 100).tdiv 10)=n % 100 / 10:=by rw[Int.tdiv_eq_ediv_of_nonneg (by omega),AW (by omega) (by omega)]
 have m2:(n % 100).tmod 10=n % 10:=by rw[Int.tmod_eq_emod_of_nonneg (by omega)];omega
 have i1:=SM A hT (n / 100) (by omega) (by omega) A (SubA.refl _)
 have i2:=SM A hT (n % 100 / 10) (by omega) (by omega) A (SubA.refl _)
 have i3:=SM A hT (n % 10) (by omega) (by omega) A (SubA.refl _)
 have l1:=FO (n:=n / 100) (by omega) (by omega)
 have l2:=FO (n:=n % 100 / 10) (by omega) (by omega)
 have l3:=FO (n:=n % 10) (by omega) (by omega)
 unfold Nw
 by_cases h3:n % 100=0
 ·have h3':(n % 100 !=0)=false:=by simp[h3]
  simp only[AF,↓AE,simprocAttr,eq_false h1,eq_false h2,d1,m1,i1,h3]
  rw[show ByteArray.mk #[37]=bs [37] from rfl]
  simp only[OK,Ab,List.length_cons,List.length_nil]
  exact⟨by omega,by simp⟩
 have h3':(n % 100 !=0)=true:=by simp[h3]
 by_cases h4:n % 10=0
 ·have h4':(n % 10 !=0)=false:=by simp[h4]
  simp only[AF,↓AE,simprocAttr,eq_false h1,eq_false h2,d1,m1,d2,m2,i1,i2,h3,h3',h4]
  rw[show ByteArray.mk #[37]=bs [37] from rfl,show ByteArray.mk #[46]=bs [46] from rfl]
  simp only[OK,Ab,List.length_append,List.length_cons,List.length_nil]
  exact⟨by omega,by omega,by omega,by simp⟩
 have h4':(n % 10 !=0)=true:=by simp[h4]
 simp only[AF,↓AE,simprocAttr,eq_false h1,eq_false h2,d1,m1,d2,m2,i1,i2,i3,h3,h3',h4,h4']
 rw[show ByteArray.mk #[37]=bs [37] from rfl,show ByteArray.mk #[46]=bs [46] from rfl]
 simp only[OK,Ab,List.length_append,List.length_cons,List.length_nil]
 exact⟨by omega,by omega,by omega,by omega,by simp⟩
theorem nL(A:AH)(hT:Dv A)(n:Int)(B_:AH)(hB_:SubA A B_):Ag Tryz.prog 39 #[.int .i64 n] B_=some (.string (bs (nG n))):=AX (Aj (by kernel_rfl) (nK A hT n) hB_)
set_option maxHeartbeats 4000000
set_option maxRecDepth 20000
theorem Me{c:UInt8}: ∀r:List UInt8,r.drop (Ce c r)≠[]→0<Ce c r∧r[Ce c r - 1]? =some c
 | [],h=>by simp[Ce]at h
 | x::r,h=>by
  by_cases hx:x=c
  ·subst hx;simp[Ce]
  ·simp only[Ce,if_neg hx,List.drop_succ_cons]at h⊢
   obtain⟨h1,h2⟩:=Me r h
   refine⟨by omega, ?_⟩
   rw[show Ce c r+1 - 1=Ce c r - 1+1 by omega,List.getElem?_cons_succ]
   exact h2
theorem Z0{l:List UInt8}{d k:Nat}(h:HH l=some (d,k)): ∃t,l.drop (d+k)=37::t:=by
 unfold HH at h
 split at h
 ·rename_i c m hm
  split at h
  ·split at h
   ·cases h
   ·split at h
    ·rename_i x y hy
     split at h
     ·rename_i hx
      simp only[Option.some.injEq,Prod.mk.injEq]at h
      obtain⟨rfl,rfl⟩:=h
      refine⟨y, ?_⟩
      rw[←List.drop_drop,hm,List.drop_succ_cons,hy,hx]
     ·cases h
    ·cases h
  ·cases h
 ·cases h
def Rg(cs:Array Value)(l:List UInt8):Prop:= ∀(j:Nat) (c:UInt8),l[j]? =some c→cs[j]? =some (.int .u8 (c.toNat:Int))
theorem Rg.set{cs:Array Value}{l:List UInt8}(h:Rg cs l)(k:Nat)(c:UInt8)(n:Int)(hc:(c.toNat:Int)=n)(hk:k<cs.size):Rg (cs.setIfInBounds k (.int .u8 n)) (l.set k c):=by
 intro j d hj
 rw[List.getElem?_set]at hj
 rw[Array.getElem?_setIfInBounds]
 split at hj
 ·rename_i e
  subst e
  rw[if_pos rfl,if_pos hk]
  split at hj
  ·cases hj;rw[hc]
  ·cases hj
 ·rename_i e
  rw[if_neg e]
  exact h j d hj
theorem U6(a b:List UInt8)(x y:UInt8)(n:Nat)(hn:n=a.length):(a++x::b).set n y=a++y::b:=by
 subst hn
 rw[List.set_append]
 simp
theorem VS{A:AH}{b:Nat}{c:Array Value}{e:TypeId}{fr:Nat×Nat}{i:Nat}{v:Value}(h1:i<c.size)(h2:i+1≤fr.1)(h3:v.oneCell'=true):kS A b (some (.cells c e fr)) (i*1) [v]=some (Dw A b (.cells (c.setIfInBounds i v) e fr)):=by
 rw[Nat.mul_one]
 unfold kS
 simp only[List.length_cons,List.length_nil,DH,h3,Bool.and_true]
 rw[if_pos ⟨by omega,.inr (by omega),trivial⟩]
 rfl
theorem oq(s:ByteArray)(hs:s.size≤100000):AK Tryz.prog 22 #[.string s] [] (fun u_ A_=>u_=.string (BM s)):=by
 refine AC ⟨Tryz.prog,22,Tryz.f22,71,[0,2,3,4,5,6,7],⟨[],none⟩,[],_⟩ rfl (args:=[_]) Tryz.func22 rfl (by kernel_rfl) Tryz.ntmps22 (by simp) (by kernel_rfl) ?_
 intro ν fr
 simp only[AF,↓AE,simprocAttr]
 refine bg (e:=5) Tryz.underlying9 Tryz.underlying54 Tryz.underlying5 ?_
 intro g cap cs fc hg hcap hcs hfc hrow
 clear fr
 intro ν fr
 simp only[AF,↓AE,simprocAttr]
 clear fr
 obtain⟨i,w,pre,hi0,hi,hpl,hpw,hcs',hrow',hw⟩: ∃(i:Nat) (w:Bool) (pre:List UInt8),i=0∧i≤s.size∧pre.length=i∧pre++pW w (s.toList.drop i)=bR s.toList∧cs.size=cap∧Rg cs (pre++s.toList.drop i)∧(∀c r,s.toList.drop i=c::r→Ae c.toNat=true→(w=true↔ ∃d,0<i∧s.toList[i - 1]? =some d∧BG d.toNat=true)):=
  ⟨0,false,[],rfl,by omega,rfl,rfl,hcs,hrow,fun c r _ _=>by simp⟩
 rw[show(4,some (Value.int .i64 0))=(4,some (Value.int .i64 (i:Int))) by rw[hi0];rfl]
 rw[hcs]at hfc
 clear hi0 hrow hcs
 obtain⟨m,hm⟩: ∃m,s.size - i=m:=⟨_,rfl⟩
 induction m using Nat.strongRecOn generalizing i w pre cs with
 | ind m ih=>
  cases hl:s.toList.drop i with
  |nil=>
   have hlt:((i:Int)<(s.size:Int))=False:=by have:=CB hl;simp;omega
   rw[hl,Fk,List.append_nil]at hpw
   rw[hl,List.append_nil,hpw]at hrow'
   refine AR.intro (by kernel_rfl) ?_
   intro ν fr
   have hrd:=XS (P:=Tryz.prog) (A:=[(g,Obj.cells cs 5 fc)]) (cap:=cap) (cs:=cs) (e':=5) (fr:=fc) (g:=g) (src:=54) (dst:=9) (e:=5) (l:=bR s.toList) Tryz.underlying54 Tryz.underlying5 Tryz.underlying9 (by simp[Vm.AA]) hrow'
   rw[LO,AP]at hrd
   simp only[AF,↓AE,simprocAttr,hlt,hrd]
   rfl
  | cons c r=>
   obtain⟨hp,hc,hl',hsl,hb⟩:=Bj hl
   have hlt:((i:Int)<(s.size:Int))=True:=by simp;omega
   have hlen:i+(r.length+1)=s.size:=by
    have:=congrArg List.length hl
    rw[List.length_drop,AP,List.length_cons]at this;omega
   have we:IntKind.i64.wrap ((i:Int)+1)=((i+1:Nat):Int):=by rw[AW (by omega) (by omega)];omega
   have q35':((c.toNat:Int)=35)=(c=35):=propext ⟨fun h=>by rw[←UInt8.toNat_inj];have:(35:UInt8).toNat=35:=rfl;omega,fun h=>by rw[h];rfl⟩
   have q35:((c.toNat:Int)==35)=decide (c=35):=by
    by_cases h:c=35
    ·subst h;rfl
    ·have h2: ¬(c.toNat:Int)=35:=by rw[q35'];exact h
     simp[h,h2]
   have q34':((c.toNat:Int)=34)=(c=34):=propext ⟨fun h=>by rw[←UInt8.toNat_inj];have:(34:UInt8).toNat=34:=rfl;omega,fun h=>by rw[h];rfl⟩
   have q34:((c.toNat:Int)==34)=decide (c=34):=by
    by_cases h:c=34
    ·subst h;rfl
    ·have h2: ¬(c.toNat:Int)=34:=by rw[q34'];exact h
     simp[h,h2]
   have a10: ∀A,Ag Tryz.prog 42 #[.string s,.int .i64 (i:Int),.int .u8 10] A=_:=Hi s i 10 (by omega) hs
   have a34: ∀A,Ag Tryz.prog 42 #[.string s,.int .i64 ((i+1:Nat):Int),.int .u8 34] A=_:=Hi s (i+1) 34 (by omega) hs
   rw[hl]at a10 hpw hrow'
   rw[hl']at a34
   rw[Cs]at hpw
   -- a step that leaves the row as it is
   have step: ∀(n:Nat) (w':Bool),n≤r.length→(∀d t,r.drop n=d::t→Ae d.toNat=true→(w'=true↔ ∃x,(c::r)[n]? =some x∧BG x.toNat=true))→pre++(c::(r.take n++pW w' (r.drop n)))=bR s.toList→
     (pre++c::r.take n).length=i+1+n∧(pre++c::r.take n)++pW w' (s.toList.drop (i+1+n))=bR s.toList∧Rg cs ((pre++c::r.take n)++s.toList.drop (i+1+n))∧
     (∀d t,s.toList.drop (i+1+n)=d::t→Ae d.toNat=true→(w'=true↔ ∃x,0<i+1+n∧s.toList[i+1+n - 1]? =some x∧BG x.toNat=true)):=fun n w' h1 h2 h3=>by
    have hdr:s.toList.drop (i+1+n)=r.drop n:=by rw[←List.drop_drop,hl']
    have hix:s.toList[i+1+n - 1]? =(c::r)[n]? :=by rw[←hl,List.getElem?_drop];congr 1;omega
    refine⟨by rw[List.length_append,List.length_cons,List.length_take];omega,by rw[hdr,←h3];simp, ?_,fun d t h4 h5=> ?_⟩
    ·rw[hdr]
     have e:(pre++c::r.take n)++r.drop n=pre++c::r:=by simp
     rw[e];exact hrow'
    ·rw[hdr]at h4
     rw[h2 d t h4 h5,hix]
     exact⟨fun⟨x,a,b⟩=>⟨x,by omega,a,b⟩,fun⟨x,_,a,b⟩=>⟨x,a,b⟩⟩
   refine AR.intro (by kernel_rfl) ?_
   intro ν fr
   by_cases h35:c=35
   ·rw[if_pos h35]at hpw
    have e10:i+Ce 10 (c::r)=i+1+Ce 10 r:=by rw[h35];simp only[Ce];rw[if_neg (by decide)];omega
    simp only[AF,↓AE,simprocAttr,Bn,hlt,hb,q35,eq_true h35,a10]
    rw[e10]
    have hu:=GU 10 r
    obtain⟨s1,s2,s3,s4⟩:=step (Ce 10 r) false hu (fun d t h4 h5=>by
     obtain⟨u1,u2⟩:=Me r (by rw[h4];simp)
     constructor
     ·intro h;cases h
     ·rintro⟨x,hx,hx2⟩
      rw[show Ce 10 r=Ce 10 r - 1+1 by omega,List.getElem?_cons_succ,u2]at hx
      cases hx;exact absurd hx2 (by decide)) hpw
    exact AR.weak (ih (s.size - (i+1+Ce 10 r)) (by omega) cs (i+1+Ce 10 r) false _ (by omega) s1 s2 hcs' s3 s4 rfl) (by simp[Ah,AO]) (SubA.refl _)
   rw[if_neg h35]at hpw
   by_cases h34:c=34
   ·rw[if_pos h34]at hpw
    simp only[AF,↓AE,simprocAttr,Bn,hlt,hb,q35,eq_false h35,q34,eq_true h34,we,a34]
    have hu:=GU 34 r
    obtain⟨s1,s2,s3,s4⟩:=step (Ce 34 r) false hu (fun d t h4 h5=>by
     obtain⟨u1,u2⟩:=Me r (by rw[h4];simp)
     constructor
     ·intro h;cases h
     ·rintro⟨x,hx,hx2⟩
      rw[show Ce 34 r=Ce 34 r - 1+1 by omega,List.getElem?_cons_succ,u2]at hx
      cases hx;exact absurd hx2 (by decide)) hpw
    exact AR.weak (ih (s.size - (i+1+Ce 34 r)) (by omega) cs (i+1+Ce 34 r) false _ (by omega) s1 s2 hcs' s3 s4 rfl) (by simp[Ah,AO]) (SubA.refl _)
   rw[if_neg h34]at hpw
   have plain:pre++c::pW (BG c.toNat) r=bR s.toList→_:=fun h=>step 0 (BG c.toNat) (Nat.zero_le _) (fun d t h4 h5=>⟨fun h=>⟨c,rfl,h⟩,fun⟨x,hx,h⟩=>by cases hx;exact h⟩) (by rw[List.take_zero,List.drop_zero,List.nil_append];exact h)
   have w0:=hw c r hl
   cases hdg:Ae c.toNat with
   |false=>
    rw[if_neg (by rw[hdg];simp)]at hpw
    simp only[AF,↓AE,simprocAttr,Bn,hlt,hb,q35,eq_false h35,q34,eq_false h34,hdg,we]
    obtain⟨s1,s2,s3,s4⟩:=plain hpw
    exact AR.weak (ih (s.size - (i+1)) (by omega) cs (i+1) (BG c.toNat) _ (by omega) s1 s2 hcs' s3 s4 rfl) (by simp[Ah,AO]) (SubA.refl _)
   |true=>
   have w1:=w0 hdg
   have hwc:BG c.toNat=true:=by simp[BG,hdg]
   by_cases hwt:w=true
   ·obtain⟨d,hi0,hd1,hd2⟩:=w1.1 hwt
    rw[if_neg (by rw[hwt];simp)]at hpw
    have z1:((i:Int)=0)=False:=eq_false (by omega)
    have z2:((i:Int)==0)=false:=by simp;omega
    have wm:IntKind.i64.wrap ((i:Int) - 1)=((i - 1:Nat):Int):=by rw[AW (by omega) (by omega)];omega
    have lm:(((i - 1:Nat):Int)<0)=False:=eq_false (by omega)
    have hbm:s.data[i - 1]? =some d:=by rw[←hd1,ByteArray.toList_eq,Array.getElem?_toList]
    simp only[AF,↓AE,simprocAttr,Bn,De,hlt,hb,q35,eq_false h35,q34,eq_false h34,hdg,we,z2,wm,hbm,hd2]
    obtain⟨s1,s2,s3,s4⟩:=plain hpw
    exact AR.weak (ih (s.size - (i+1)) (by omega) cs (i+1) (BG c.toNat) _ (by omega) s1 s2 hcs' s3 s4 rfl) (by simp[Ah,AO]) (SubA.refl _)
   have hwf:w=false:=by simpa using hwt
   rw[if_pos ⟨hdg,hwf⟩]at hpw
   have fv:=HJ s i (by omega) hs
   unfold Z2 at fv
   rw[hl]at fv
   rcases Nat.eq_zero_or_pos i with hi0|hi0
   ·have z1:((i:Int)=0)=True:=eq_true (by omega)
    have z2:((i:Int)==0)=true:=by simp;omega
    cases hf:HH (c::r)with
    |none=>
     rw[hf]at fv hpw
     simp only at fv hpw
     have m0:(((i+1:Nat):Int)<0)=False:=eq_false (by omega)
     have c00:((0:Nat):Int)=0:=rfl
     simp only[AF,↓AE,simprocAttr,Bn,hlt,hb,q35,eq_false h35,q34,eq_false h34,hdg,we,z2,fv,c00]
     clear fr
     refine AR.intro (by kernel_rfl) ?_
     intro ν fr
     simp only[AF,↓AE,simprocAttr,we,m0]
     obtain⟨s1,s2,s3,s4⟩:=plain (by rw[hwc];exact hpw)
     exact AR.weak (ih (s.size - (i+1)) (by omega) cs (i+1) (BG c.toNat) _ (by omega) s1 s2 hcs' s3 s4 rfl) (by simp[Ah,AO]) (SubA.refl _)
    | some p=>
     obtain⟨d,k⟩:=p
     rw[hf]at fv hpw
     simp only at fv hpw
     obtain⟨f1,f2,f3⟩:=Dp hf
     obtain⟨tl,htl⟩:=Z0 hf
     rw[List.length_cons]at f2
     simp only[AF,↓AE,simprocAttr,Bn,hlt,hb,q35,eq_false h35,q34,eq_false h34,hdg,we,z2,fv]
     clear fr
     obtain⟨t,cs2,ht,hc2,ht1,ht2,hz2,hr2⟩: ∃(t:Nat) (cs2:Array Value),t=i+d∧cs2=cs∧i+d≤t∧t≤i+d+k∧cs2.size=cap∧Rg cs2 (pre++((c::r).take d++(List.replicate (t - (i+d)) 32++(c::r).drop (t - i)))):=
      ⟨i+d,cs,rfl,rfl,by omega,by omega,hcs',by rw[Nat.sub_self,show i+d - i=d by omega,List.replicate_zero,List.nil_append,List.take_append_drop];exact hrow'⟩
     rw[show(7,some (Value.int .i64 ((i+d:Nat):Int)))=(7,some (Value.int .i64 (t:Int))) by rw[ht],←hc2]
     clear ht hc2
     generalize hkm:i+d+k - t=km
     induction km generalizing t cs2 with
     |zero=>
      have hlt2:((t:Int)<((i+d+k:Nat):Int))=False:=eq_false (by omega)
      have mx:(((i+1:Nat):Int)<((i+d+k:Nat):Int))=True:=eq_true (by omega)
      have hte:t=i+(d+k):=by omega
      rw[show t - (i+d)=k by omega,show t - i=d+k by omega,htl]at hr2
      have hdr:s.toList.drop (i+d+k)=37::tl:=by rw[Nat.add_assoc,←List.drop_drop,hl,htl]
      refine AR.intro (by kernel_rfl) ?_
      intro ν fr
      simp only[AF,↓AE,simprocAttr,hlt2,we,mx]
      refine AR.weak (ih (s.size - (i+d+k)) (by omega) cs2 (i+d+k) false (pre++((c::r).take d++List.replicate k 32)) (by omega) (by simp;omega) (by rw[hdr,←hpw,htl];simp) hz2 (by rw[hdr];simpa using hr2) (fun d' t' h4 h5=>by rw[hdr]at h4;cases h4;exact absurd h5 (by decide)) rfl) (by simp[Ah,AO]) (SubA.refl _)
     | succ km ihk=>
      have hlt2:((t:Int)<((i+d+k:Nat):Int))=True:=eq_true (by omega)
      have lt3:((t:Int)<(s.size:Int))=True:=eq_true (by omega)
      have li3:((t:Int)<0)=False:=eq_false (by omega)
      have wt:IntKind.i64.wrap ((t:Int)+1)=((t+1:Nat):Int):=by rw[AW (by omega) (by omega)];omega
      have lz:t<cs2.size:=by omega
      refine AR.intro (by kernel_rfl) ?_
      intro ν fr
      have hwr:=VS (A:=[(g,Obj.cells cs2 5 fc)]) (b:=g) (c:=cs2) (e:=5) (fr:=fc) (i:=t) (v:=.int .u8 32) lz (by omega) rfl
      have hpt:Dw [(g,Obj.cells cs2 5 fc)] g (.cells (cs2.setIfInBounds t (.int .u8 32)) 5 fc)=[(g,Obj.cells (cs2.setIfInBounds t (.int .u8 32)) 5 fc)]:=by simp[Dw]
      rw[hpt]at hwr
      simp only[AF,↓AE,simprocAttr,hlt2,lt3,wt,hwr]
      have hnx:pre++((c::r).take d++(List.replicate (t+1 - (i+d)) 32++(c::r).drop (t+1 - i)))=(pre++((c::r).take d++(List.replicate (t - (i+d)) 32++(c::r).drop (t - i)))).set t 32:=by
       obtain⟨y,z,hyz⟩: ∃y z,(c::r).drop (t - i)=y::z:=by
        cases hq:(c::r).drop (t - i)with
        |nil=>have:=congrArg List.length hq;simp at this;omega
        |cons y z=>exact⟨y,z,rfl⟩
       have hz:(c::r).drop (t+1 - i)=z:=by rw[show t+1 - i=(t - i)+1 by omega,←List.drop_drop,hyz];rfl
       rw[hyz,hz,show t+1 - (i+d)=(t - (i+d))+1 by omega,List.replicate_succ']
       rw[show pre++((c::r).take d++(List.replicate (t - (i+d)) 32++y::z))=(pre++((c::r).take d++List.replicate (t - (i+d)) 32))++y::z by simp,U6 _ _ _ _ _ (by simp;omega)]
       simp
      exact AR.weak (ihk (t+1) (cs2.setIfInBounds t (.int .u8 32)) (by omega) (by omega) (by simpa using hz2) (by rw[hnx];exact hr2.set t 32 32 rfl lz) (by omega)) (by simp[Ah,AO]) (SubA.refl _)
   ·obtain⟨d,hd1⟩: ∃d,s.toList[i - 1]? =some d:=⟨_,List.getElem?_eq_getElem (by rw[AP];omega)⟩
    have hd2:BG d.toNat=false:=by
     cases hx:BG d.toNat with
     |false=>rfl
     |true=>exact absurd (w1.2 ⟨d,hi0,hd1,hx⟩) hwt
    have z1:((i:Int)=0)=False:=eq_false (by omega)
    have z2:((i:Int)==0)=false:=by simp;omega
    have wm:IntKind.i64.wrap ((i:Int) - 1)=((i - 1:Nat):Int):=by rw[AW (by omega) (by omega)];omega
    have lm:(((i - 1:Nat):Int)<0)=False:=eq_false (by omega)
    have hbm:s.data[i - 1]? =some d:=by rw[←hd1,ByteArray.toList_eq,Array.getElem?_toList]
    have hd3:=hd2
    clear hd1 hd2
    cases hf:HH (c::r)with
    |none=>
     rw[hf]at fv hpw
     simp only at fv hpw
     have m0:(((i+1:Nat):Int)<0)=False:=eq_false (by omega)
     have c00:((0:Nat):Int)=0:=rfl
     simp only[AF,↓AE,simprocAttr,Bn,De,hlt,hb,q35,eq_false h35,q34,eq_false h34,hdg,we,z2,wm,hbm,hd3,fv,c00]
     clear fr
     refine AR.intro (by kernel_rfl) ?_
     intro ν fr
     simp only[AF,↓AE,simprocAttr,we,m0]
     obtain⟨s1,s2,s3,s4⟩:=plain (by rw[hwc];exact hpw)
     exact AR.weak (ih (s.size - (i+1)) (by omega) cs (i+1) (BG c.toNat) _ (by omega) s1 s2 hcs' s3 s4 rfl) (by simp[Ah,AO]) (SubA.refl _)
    | some p=>
     obtain⟨d,k⟩:=p
     rw[hf]at fv hpw
     simp only at fv hpw
     obtain⟨f1,f2,f3⟩:=Dp hf
     obtain⟨tl,htl⟩:=Z0 hf
     rw[List.length_cons]at f2
     simp only[AF,↓AE,simprocAttr,Bn,De,hlt,hb,q35,eq_false h35,q34,eq_false h34,hdg,we,z2,wm,hbm,hd3,fv]
     clear fr
     obtain⟨t,cs2,ht,hc2,ht1,ht2,hz2,hr2⟩: ∃(t:Nat) (cs2:Array Value),t=i+d∧cs2=cs∧i+d≤t∧t≤i+d+k∧cs2.size=cap∧Rg cs2 (pre++((c::r).take d++(List.replicate (t - (i+d)) 32++(c::r).drop (t - i)))):=
      ⟨i+d,cs,rfl,rfl,by omega,by omega,hcs',by rw[Nat.sub_self,show i+d - i=d by omega,List.replicate_zero,List.nil_append,List.take_append_drop];exact hrow'⟩
     rw[show(7,some (Value.int .i64 ((i+d:Nat):Int)))=(7,some (Value.int .i64 (t:Int))) by rw[ht],←hc2]
     clear ht hc2
     generalize hkm:i+d+k - t=km
     induction km generalizing t cs2 with
     |zero=>
      have hlt2:((t:Int)<((i+d+k:Nat):Int))=False:=eq_false (by omega)
      have mx:(((i+1:Nat):Int)<((i+d+k:Nat):Int))=True:=eq_true (by omega)
      have hte:t=i+(d+k):=by omega
      rw[show t - (i+d)=k by omega,show t - i=d+k by omega,htl]at hr2
      have hdr:s.toList.drop (i+d+k)=37::tl:=by rw[Nat.add_assoc,←List.drop_drop,hl,htl]
      refine AR.intro (by kernel_rfl) ?_
      intro ν fr
      simp only[AF,↓AE,simprocAttr,hlt2,we,mx]
      refine AR.weak (ih (s.size - (i+d+k)) (by omega) cs2 (i+d+k) false (pre++((c::r).take d++List.replicate k 32)) (by omega) (by simp;omega) (by rw[hdr,←hpw,htl];simp) hz2 (by rw[hdr];simpa using hr2) (fun d' t' h4 h5=>by rw[hdr]at h4;cases h4;exact absurd h5 (by decide)) rfl) (by simp[Ah,AO]) (SubA.refl _)
     | succ km ihk=>
      have hlt2:((t:Int)<((i+d+k:Nat):Int))=True:=eq_true (by omega)
      have lt3:((t:Int)<(s.size:Int))=True:=eq_true (by omega)
      have li3:((t:Int)<0)=False:=eq_false (by omega)
      have wt:IntKind.i64.wrap ((t:Int)+1)=((t+1:Nat):Int):=by rw[AW (by omega) (by omega)];omega
      have lz:t<cs2.size:=by omega
      refine AR.intro (by kernel_rfl) ?_
      intro ν fr
      have hwr:=VS (A:=[(g,Obj.cells cs2 5 fc)]) (b:=g) (c:=cs2) (e:=5) (fr:=fc) (i:=t) (v:=.int .u8 32) lz (by omega) rfl
      have hpt:Dw [(g,Obj.cells cs2 5 fc)] g (.cells (cs2.setIfInBounds t (.int .u8 32)) 5 fc)=[(g,Obj.cells (cs2.setIfInBounds t (.int .u8 32)) 5 fc)]:=by simp[Dw]
      rw[hpt]at hwr
      simp only[AF,↓AE,simprocAttr,hlt2,lt3,wt,hwr]
      have hnx:pre++((c::r).take d++(List.replicate (t+1 - (i+d)) 32++(c::r).drop (t+1 - i)))=(pre++((c::r).take d++(List.replicate (t - (i+d)) 32++(c::r).drop (t - i)))).set t 32:=by
       obtain⟨y,z,hyz⟩: ∃y z,(c::r).drop (t - i)=y::z:=by
        cases hq:(c::r).drop (t - i)with
        |nil=>have:=congrArg List.length hq;simp at this;omega
        |cons y z=>exact⟨y,z,rfl⟩
       have hz:(c::r).drop (t+1 - i)=z:=by rw[show t+1 - i=(t - i)+1 by omega,←List.drop_drop,hyz];rfl
       rw[hyz,hz,show t+1 - (i+d)=(t - (i+d))+1 by omega,List.replicate_succ']
       rw[show pre++((c::r).take d++(List.replicate (t - (i+d)) 32++y::z))=(pre++((c::r).take d++List.replicate (t - (i+d)) 32))++y::z by simp,U6 _ _ _ _ _ (by simp;omega)]
       simp
      exact AR.weak (ihk (t+1) (cs2.setIfInBounds t (.int .u8 32)) (by omega) (by omega) (by simpa using hz2) (by rw[hnx];exact hr2.set t 32 32 rfl lz) (by omega)) (by simp[Ah,AO]) (SubA.refl _)
end Go.Proofs.YtgmfcdeknaeikaaGreatDoor
