/-
Texts without fractions, and percentages, of the reference.
Conditions: none.
-/
import Derived.Test.YtfphceknmgadgaaGreatDoorQi
import Derived.Test.YtfphceknmgadgaaGreatDoorQh
set_option linter.unusedSimpArgs false
set_option linter.unusedVariables false
namespace Go.Proofs.YtfphceknmgadgaaGreatDoor
open Go.Vm
set_option maxHeartbeats 4000000
set_option maxRecDepth 20000
theorem CK:type_of% (An @BC (An @BU (An @BS (An @Aw (An @BB (An @BT (An @Bn (An @BN (An @CA (An @CS (An @B9 (An @CR (An @Cm (An @CT (An @CC (An @Bp (An @Bq (An @CQ (An @Be (An @Br (An @CB (An @Bo (An @Bx (An @AU (An @AQ (An @Am (An @Ap (An @Ag (An @BG (An @Aj (An @At (An @Au (An @Ax (An @A4 (An @A5 (An @A7 (An @BA @Ce))))))))))))))))))))))))))))))))))))):=⟨@BC,@BU,@BS,@Aw,@BB,@BT,@Bn,@BN,@CA,@CS,@B9,@CR,@Cm,@CT,@CC,@Bp,@Bq,@CQ,@Be,@Br,@CB,@Bo,@Bx,@AU,@AQ,@Am,@Ap,@Ag,@BG,@Aj,@At,@Au,@Ax,@A4,@A5,@A7,@BA,@Ce⟩
theorem ay(c:UInt8):AM Tryz.prog 60 #[.int .u8 (c.toNat:Int)] [] (fun u_ _=>u_=.bool (BH c.toNat)):=by
 refine AR ⟨Tryz.prog,60,Tryz.f60,9,[0,2],⟨[],none⟩,[],_⟩ rfl (args:=[_]) Tryz.func60 rfl (by kernel_rfl) Tryz.ntmps60 (by simp) (by kernel_rfl) ?_
 intro ν fr;have nuE:=fr.nu
 simp (maxDischargeDepth:=16) only[AX,↓AW,simprocAttr,forall_const,nuE,fr.2,CK]
 unfold BH
 by_cases h1:48≤c.toNat
 ·by_cases h2:c.toNat≤57
  ·have k1:(48≤(c.toNat:Int))=True:=eq_true (by omega)
   have k2:((c.toNat:Int)≤57)=True:=eq_true (by omega)
   simp[h1,h2,k1,k2]
  ·have k1:(48≤(c.toNat:Int))=True:=eq_true (by omega)
   have k2:((c.toNat:Int)≤57)=False:=eq_false (by omega)
   simp[h1,h2,k1,k2]
 ·have k1:(48≤(c.toNat:Int))=False:=eq_false (by omega)
  simp[h1,k1]
theorem Al(c:UInt8)(A_:AH):B5 Tryz.prog 60 #[.int .u8 (c.toNat:Int)] A_=some (.bool (BH c.toNat)):=Bk (CN (by kernel_rfl) (ay c))
theorem Xt(c:UInt8):AM Tryz.prog 61 #[.int .u8 (c.toNat:Int)] [] (fun u_ _=>u_=.bool (CH c.toNat)):=by
 refine AR ⟨Tryz.prog,61,Tryz.f61,25,[0,2],⟨[],none⟩,[],_⟩ rfl (args:=[_]) Tryz.func61 rfl (by kernel_rfl) Tryz.ntmps61 (by simp) (by kernel_rfl) ?_
 intro ν fr;have nuE:=fr.nu
 have e95:=rH c.toNat
 have hl:=HM c.toNat
 cases hd:BH c.toNat with
 |true=>
  simp (maxDischargeDepth:=16) only[AX,↓AW,simprocAttr,forall_const,nuE,fr.2,CK,Al,hd]
  simp[CH,hd]
 |false=>
  simp (maxDischargeDepth:=16) only[AX,↓AW,simprocAttr,forall_const,nuE,fr.2,CK,Al,hd,e95]
  simp[CH,hd,←hl]
theorem Ae(c:UInt8)(A_:AH):B5 Tryz.prog 61 #[.int .u8 (c.toNat:Int)] A_=some (.bool (CH c.toNat)):=Bk (CN (by kernel_rfl) (Xt c))
theorem nZ(s:ByteArray)(i:Nat)(hi:i≤s.size)(hs:s.size≤100000):AM Tryz.prog 85 #[.string s,.int .i64 (i:Int)] [] (fun u_ _=>u_=.int .i64 ((i+Av (s.toList.drop i):Nat):Int)):=by
 refine AR ⟨Tryz.prog,85,Tryz.f85,18,[0,1,4],⟨[],none⟩,[],_⟩ rfl (args:=[_,_]) Tryz.func85 rfl (by kernel_rfl) Tryz.ntmps85 (by simp) (by kernel_rfl) ?_
 intro ν fr;have nuE:=fr.nu
 simp (maxDischargeDepth:=16) only[AX,↓AW,simprocAttr,forall_const,nuE,fr.2,CK,Al,Ae]
 obtain⟨e,he,h1,h2,h3⟩: ∃e:Nat,e=i∧i≤e∧e≤s.size∧i+Av (s.toList.drop i)=e+Av (s.toList.drop e):=⟨i,rfl,by omega,hi,rfl⟩
 rw[show(1,some (Value.int .i64 (i:Int)))=(1,some (Value.int .i64 (e:Int))) by rw[he]]
 clear he nuE fr
 generalize hl:s.toList.drop e=l at h3
 induction l generalizing e with
 |nil=>
  have hlt:((e:Int)<(s.size:Int))=False:=by have:=Cb hl;simp;omega
  refine Ah.intro (by kernel_rfl) ?_
  intro ν fr;have nuE:=fr.nu
  simp (maxDischargeDepth:=16) only[AX,↓AW,simprocAttr,forall_const,nuE,fr.2,CK,Al,Ae,hlt]
  rw[h3]
  rfl
 | cons c l ih=>
  obtain⟨hp,hc,hl',hsl,hb⟩:=CM hl
  have hlt:((e:Int)<(s.size:Int))=True:=by simp;omega
  have we:IntKind.i64.wrap ((e:Int)+1)=((e+1:Nat):Int):=by rw[Ak (by omega) (by omega)];omega
  refine Ah.intro (by kernel_rfl) ?_
  intro ν fr;have nuE:=fr.nu
  simp only[Av]at h3
  cases hw:BH c.toNat with
  |true=>
   rw[if_pos hw]at h3
   simp (maxDischargeDepth:=16) only[AX,↓AW,simprocAttr,forall_const,nuE,fr.2,CK,Al,Ae,hlt,hb,we,hw]
   exact Ah.weak (ih (e+1) (by omega) (by omega) hl' (by omega)) (by simp only[BW,Ab,Nat.reduceEqDiff,↓reduceIte,reduceCtorEq,Nat.reduceAdd,and_self,and_true]) (SubA.refl _)
  |false=>
   rw[if_neg (by simp[hw])]at h3
   simp (maxDischargeDepth:=16) only[AX,↓AW,simprocAttr,forall_const,nuE,fr.2,CK,Al,Ae,hlt,hb,we,hw]
   rw[h3]
   rfl
theorem A9(s:ByteArray)(i:Nat)(hi:i≤s.size)(hs:s.size≤100000)(A_:AH):B5 Tryz.prog 85 #[.string s,.int .i64 (i:Int)] A_=some (.int .i64 ((i+Av (s.toList.drop i):Nat):Int)):=Bk (CN (by kernel_rfl) (nZ s i hi hs))
def MW(s:ByteArray)(i:Nat):Nat×Nat×Bool:=if Av (s.toList.drop i)=0 then(0,0,false)else match (s.toList.drop i).drop (Av (s.toList.drop i))with
 |c::m=>if c=46 then(i+Av (s.toList.drop i),i+Av (s.toList.drop i)+1+Av m,decide (Av m≠0)&&decide ((m.drop (Av m)).head? =some 37))else(0,0,false)
 | []=>(0,0,false)
theorem nR{s:ByteArray}{i:Nat}(h:Av (s.toList.drop i)≠0):LD (s.toList.drop i)=if(MW s i).2.2=true then some ((MW s i).1 - i,(MW s i).2.1 - (MW s i).1)else none:=by
 unfold LD MW
 rw[if_neg h]
 cases hm:(s.toList.drop i).drop (Av (s.toList.drop i))with
 |nil=>rfl
 | cons c m=>
  simp only
  by_cases hc:c=46
  ·rw[if_pos hc,if_pos hc]
   by_cases h0:Av m=0
   ·simp[h0]
   ·rw[if_neg h0]
    cases hd:m.drop (Av m)with
    |nil=>simp
    |cons d t=>
     by_cases h37:d=37
     ·simp[h37,h0];omega
     ·simp[h37]
  ·rw[if_neg hc,if_neg hc];rfl
theorem mb(s:ByteArray)(i:Nat)(hi:i≤s.size):(MW s i).1≤s.size∧(MW s i).2.1≤s.size:=by
 unfold MW
 split
 ·simp
 ·rename_i h0
  split
  ·rename_i c m hm
   have h1:=congrArg List.length hm
   have h2:=EK m
   have h3:=EK (s.toList.drop i)
   simp only[List.length_drop,List.length_cons,BK]at h1 h3
   split
   ·exact⟨by simp only;omega,by simp only;omega⟩
   ·simp
  ·simp
theorem Tk(c:UInt8):((c.toNat:Int)=46)=(c=46):=propext ⟨fun h=>by rw[←UInt8.toNat_inj];have:(46:UInt8).toNat=46:=rfl;omega,fun h=>by rw[h];rfl⟩
theorem oJ(c:UInt8):((c.toNat:Int) !=46)= !decide (c=46):=by
 by_cases h:c=46
 ·subst h;rfl
 ·have h2: ¬(c.toNat:Int)=46:=by rw[Tk];exact h
  simp[h,h2]
theorem aJ(c:UInt8):((c.toNat:Int)=37)=(c=37):=propext ⟨fun h=>by rw[←UInt8.toNat_inj];have:(37:UInt8).toNat=37:=rfl;omega,fun h=>by rw[h];rfl⟩
theorem rG(c:UInt8):((c.toNat:Int)==37)=decide (c=37):=by
 by_cases h:c=37
 ·subst h;rfl
 ·have h2: ¬(c.toNat:Int)=37:=by rw[aJ];exact h
  simp[h,h2]
theorem mU(s:ByteArray)(i:Nat)(hi:i≤s.size)(hs:s.size≤100000):AM Tryz.prog 62 #[.string s,.int .i64 (i:Int)] [] (fun u_ _=>u_=.tuple #[.int .i64 ((MW s i).1:Int),.int .i64 ((MW s i).2.1:Int),.bool (MW s i).2.2]):=by
 refine AR ⟨Tryz.prog,62,Tryz.f62,49,[0,1,4,5,6,7,8],⟨[],none⟩,[(5,.q false)],_⟩ rfl (args:=[_,_]) Tryz.func62 rfl (by kernel_rfl) Tryz.ntmps62 (by simp) (by kernel_rfl) ?_
 intro ν fr;have nuE:=fr.nu
 have hd:=EK (s.toList.drop i)
 rw[List.length_drop,BK]at hd
 have ad:=A9 s i hi hs
 have hdd:s.toList.drop (i+Av (s.toList.drop i))=(s.toList.drop i).drop (Av (s.toList.drop i)):=by rw[List.drop_drop]
 by_cases hz:Av (s.toList.drop i)=0
 ·have hf:MW s i=(0,0,false):=by unfold MW;rw[if_pos hz]
  rw[hz,Nat.add_zero]at ad
  simp (maxDischargeDepth:=16) only[AX,↓AW,simprocAttr,forall_const,nuE,fr.2,CK,Al,Ae,A9,ad]
  rw[hf];rfl
 have q0:(((i+Av (s.toList.drop i):Nat):Int)=(i:Int))=False:=eq_false (by omega)
 have q0b:(((i+Av (s.toList.drop i):Nat):Int)==(i:Int))=false:=by simp;omega
 cases hl:(s.toList.drop i).drop (Av (s.toList.drop i))with
 |nil=>
  have hf:MW s i=(0,0,false):=by unfold MW;rw[if_neg hz,hl]
  rw[hl]at hdd
  have:=Cb hdd
  have ge:((s.size:Int)≤((i+Av (s.toList.drop i):Nat):Int))=True:=eq_true (by omega)
  simp (maxDischargeDepth:=16) only[AX,↓AW,simprocAttr,forall_const,nuE,fr.2,CK,Al,Ae,A9,ad,q0,q0b,ge]
  rw[hf];rfl
 | cons c m=>
  rw[hl]at hdd
  obtain⟨hp,hc,hl',hsl,hb⟩:=CM hdd
  have ge:((s.size:Int)≤((i+Av (s.toList.drop i):Nat):Int))=False:=eq_false (by omega)
  by_cases h46:c=46
  rotate_left
  ·have hf:MW s i=(0,0,false):=by unfold MW;rw[if_neg hz,hl];simp only[if_neg h46]
   simp (maxDischargeDepth:=16) only[AX,↓AW,simprocAttr,forall_const,nuE,fr.2,CK,Al,Ae,A9,ad,q0,q0b,ge,hb,oJ,Tk,eq_false h46]
   rw[hf];rfl
  have wp:IntKind.i64.wrap (((i+Av (s.toList.drop i):Nat):Int)+1)=((i+Av (s.toList.drop i)+1:Nat):Int):=by rw[Ak (by omega) (by omega)];omega
  have ad2:=A9 s (i+Av (s.toList.drop i)+1) (by omega) hs
  rw[hl']at ad2
  have hm:=EK m
  have hml:i+Av (s.toList.drop i)+1+m.length=s.size:=by
   have:=congrArg List.length hl'
   rw[List.length_drop,BK]at this;omega
  have hf:MW s i=(i+Av (s.toList.drop i),i+Av (s.toList.drop i)+1+Av m,decide (Av m≠0)&&decide ((m.drop (Av m)).head? =some 37)):=by unfold MW;rw[if_neg hz,hl];simp only[if_pos h46]
  rw[hf]
  by_cases h0:Av m=0
  ·have q1:(((i+Av (s.toList.drop i)+1:Nat):Int)<((i+Av (s.toList.drop i)+1+Av m:Nat):Int))=False:=eq_false (by omega)
   simp (maxDischargeDepth:=16) only[AX,↓AW,simprocAttr,forall_const,nuE,fr.2,CK,Al,Ae,A9,ad,q0,q0b,ge,hb,oJ,Tk,eq_true h46,wp,ad2,q1]
   simp[h0]
  have q1:(((i+Av (s.toList.drop i)+1:Nat):Int)<((i+Av (s.toList.drop i)+1+Av m:Nat):Int))=True:=eq_true (by omega)
  cases hl2:m.drop (Av m)with
  | nil=>
   have:m.length=Av m:=by
    have:=congrArg List.length hl2
    simp at this;omega
   have q2:(((i+Av (s.toList.drop i)+1+Av m:Nat):Int)<(s.size:Int))=False:=eq_false (by omega)
   simp (maxDischargeDepth:=16) only[AX,↓AW,simprocAttr,forall_const,nuE,fr.2,CK,Al,Ae,A9,ad,q0,q0b,ge,hb,oJ,Tk,eq_true h46,wp,ad2,q1,q2]
   simp
  |cons d t=>
   have hd2:s.toList.drop (i+Av (s.toList.drop i)+1+Av m)=d::t:=by rw[←List.drop_drop,hl',hl2]
   obtain⟨hp2,_,_,_,hb2⟩:=CM hd2
   have q2:(((i+Av (s.toList.drop i)+1+Av m:Nat):Int)<(s.size:Int))=True:=eq_true (by omega)
   simp (maxDischargeDepth:=16) only[AX,↓AW,simprocAttr,forall_const,nuE,fr.2,CK,Al,Ae,A9,ad,q0,q0b,ge,hb,oJ,Tk,eq_true h46,wp,ad2,q1,q2,hb2,rG,aJ]
   simp[h0]
theorem BP(s:ByteArray)(i:Nat)(hi:i≤s.size)(hs:s.size≤100000)(A_:AH):B5 Tryz.prog 62 #[.string s,.int .i64 (i:Int)] A_=some (.tuple #[.int .i64 ((MW s i).1:Int),.int .i64 ((MW s i).2.1:Int),.bool (MW s i).2.2]):=Bk (CN (by kernel_rfl) (mU s i hi hs))
end Go.Proofs.YtfphceknmgadgaaGreatDoor
namespace Go.Proofs.YtfphceknmgadgaaGreatDoor
open Go.Vm
set_option maxHeartbeats 4000000
set_option maxRecDepth 20000
def FB(c:UInt8):List UInt8→Nat
 | []=>0
 |x::l=>if x=c then 0 else FB c l+1
theorem T5(c:UInt8): ∀l:List UInt8,FB c l≤l.length
 | []=>by simp[FB]
 |x::l=>by
  have:=T5 c l
  simp only[FB,List.length_cons]
  split<;>omega
theorem Pz(c:UInt8): ∀l:List UInt8,Dz c l=if FB c l<l.length then FB c l+1 else FB c l
 | []=>by simp[Dz,FB]
 | x::l=>by
  have ih:=Pz c l
  have hl:=T5 c l
  by_cases h:x=c
  ·have e:FB c (x::l)=0:=by simp[FB,h]
   have e2:Dz c (x::l)=1:=by simp[Dz,h]
   rw[e,e2];simp
  ·have e:FB c (x::l)=FB c l+1:=by simp[FB,h]
   have e2:Dz c (x::l)=Dz c l+1:=by simp[Dz,h]
   rw[e,e2,ih,List.length_cons]
   by_cases h2:FB c l<l.length
   ·rw[if_pos h2,if_pos (by omega)]
   ·rw[if_neg h2,if_neg (by omega)]
theorem Tp(c:UInt8): ∀l:List UInt8,FB c l<l.length→ ∃r,l.drop (FB c l)=c::r
 | [],h=>by simp[FB]at h
 | x::l,h=>by
  simp only[FB,List.length_cons]at h⊢
  by_cases hx:x=c
  ·subst hx;exact⟨l,by simp⟩
  ·rw[if_neg hx]at h⊢
   obtain⟨r,hr⟩:=Tp c l (by omega)
   exact⟨r,by simp[hr]⟩
theorem mX(r:List UInt8)(v w:Bool):pW v (35::r)=35::(r.take (FB 10 r)++pW w (r.drop (FB 10 r))):=by
 rw[Jf,if_pos rfl]
 have hu:=Pz 10 r
 by_cases h:FB 10 r<r.length
 ·rw[if_pos h]at hu
  obtain⟨t,ht⟩:=Tp 10 r h
  have e1:pW w (10::t)=10::pW false t:=by
   rw[Jf,if_neg (by decide),if_neg (by decide),if_neg (by intro h;exact absurd h.1 (by decide))]
   rfl
  have e2:r.drop (Dz 10 r)=t:=by rw[hu,←List.drop_drop,ht];rfl
  have e3:r.take (Dz 10 r)=r.take (FB 10 r)++[10]:=by
   rw[hu,List.take_add,ht];rfl
  rw[ht,e1,e2,e3]
  simp
 ·rw[if_neg h]at hu
  rw[hu]
  have e:r.drop (FB 10 r)=[]:=List.drop_eq_nil_of_le (by omega)
  rw[e];rfl
theorem bz(s:ByteArray)(hs:s.size≤100000):AM Tryz.prog 21 #[.string s] [] (fun u_ _=>u_=.string (Cc s)):=by
 refine AR ⟨Tryz.prog,21,Tryz.f21,101,[0,2,3,4,5,6,7,8,9],⟨[],none⟩,[],_⟩ rfl (args:=[_]) Tryz.func21 rfl (by kernel_rfl) Tryz.ntmps21 (by simp) (by kernel_rfl) ?_
 intro ν fr;have nuE:=fr.nu
 simp (maxDischargeDepth:=16) only[AX,↓AW,simprocAttr,forall_const,nuE,fr.2,CK,Al,Ae,A9,BP]
 clear nuE fr
 obtain⟨i,w,acc,hi0,hacc0,hi,hal,hpw,hw⟩: ∃(i:Nat) (w:Bool) (acc:List UInt8),i=0∧acc=[]∧i≤s.size∧acc.length=i∧acc++pW w (s.toList.drop i)=ZR s.toList∧(∀c r,s.toList.drop i=c::r→BH c.toNat=true→(w=true↔ ∃d,0<i∧s.toList[i - 1]? =some d∧CH d.toNat=true)):=
  ⟨0,false,[],rfl,rfl,by omega,rfl,rfl,fun c r _ _=>by simp⟩
 rw[show(4,some (Value.int .i64 0))=(4,some (Value.int .i64 (i:Int))) by rw[hi0];rfl,show(3,some (Value.string ⟨#[]⟩))=(3,some (Value.string (bs acc))) by rw[hacc0];rfl]
 clear hi0 hacc0
 obtain⟨m,hm⟩: ∃m,s.size - i=m:=⟨_,rfl⟩
 induction m using Nat.strongRecOn generalizing i w acc with
 | ind m ih=>
  cases hl:s.toList.drop i with
  |nil=>
   have hlt:((i:Int)<(s.size:Int))=False:=by have:=Cb hl;simp;omega
   rw[hl,d8,List.append_nil]at hpw
   refine Ah.intro (by kernel_rfl) ?_
   intro ν fr;have nuE:=fr.nu
   simp (maxDischargeDepth:=16) only[AX,↓AW,simprocAttr,forall_const,nuE,fr.2,CK,Al,Ae,A9,BP,hlt]
   rw[hpw];rfl
  | cons c r=>
   obtain⟨hp,hc,hl',hsl,hb⟩:=CM hl
   have hlt:((i:Int)<(s.size:Int))=True:=by simp;omega
   have li0:((i:Int)<0)=False:=eq_false (by omega)
   have hlen:i+(r.length+1)=s.size:=by
    have:=congrArg List.length hl
    rw[List.length_drop,BK,List.length_cons]at this;omega
   have we:IntKind.i64.wrap ((i:Int)+1)=((i+1:Nat):Int):=by rw[Ak (by omega) (by omega)];omega
   have q35':((c.toNat:Int)=35)=(c=35):=propext ⟨fun h=>by rw[←UInt8.toNat_inj];have:(35:UInt8).toNat=35:=rfl;omega,fun h=>by rw[h];rfl⟩
   have q35:((c.toNat:Int)==35)=decide (c=35):=by
    by_cases h:c=35
    ·subst h;rfl
    ·have h2: ¬(c.toNat:Int)=35:=by rw[q35'];exact h
     simp[h,h2]
   have q34':((c.toNat:Int)=34)=(c=34):=propext ⟨fun h=>by rw[←UInt8.toNat_inj];have:(34:UInt8).toNat=34:=rfl;omega,fun h=>by rw[h];rfl⟩
   have q34:((c.toNat:Int)==34)=decide (c=34):=by
    by_cases h:c=34
    ·subst h;rfl
    ·have h2: ¬(c.toNat:Int)=34:=by rw[q34'];exact h
     simp[h,h2]
   rw[hl]at hpw
   -- a step that copies n bytes behind the first one
   have step: ∀(n:Nat) (w':Bool),n≤r.length→(∀d t,r.drop n=d::t→BH d.toNat=true→(w'=true↔ ∃x,(c::r)[n]? =some x∧CH x.toNat=true))→acc++(c::(r.take n++pW w' (r.drop n)))=ZR s.toList→
     (acc++c::r.take n).length=i+1+n∧(acc++c::r.take n)++pW w' (s.toList.drop (i+1+n))=ZR s.toList∧
     (∀d t,s.toList.drop (i+1+n)=d::t→BH d.toNat=true→(w'=true↔ ∃x,0<i+1+n∧s.toList[i+1+n - 1]? =some x∧CH x.toNat=true)):=fun n w' h1 h2 h3=>by
    have hdr:s.toList.drop (i+1+n)=r.drop n:=by rw[←List.drop_drop,hl']
    have hix:s.toList[i+1+n - 1]? =(c::r)[n]? :=by rw[←hl,List.getElem?_drop];congr 1;omega
    refine⟨by rw[List.length_append,List.length_cons,List.length_take];omega,by rw[hdr,←h3];simp,fun d t h4 h5=> ?_⟩
    rw[hdr]at h4
    rw[h2 d t h4 h5,hix]
    exact⟨fun⟨x,a,b⟩=>⟨x,by omega,a,b⟩,fun⟨x,_,a,b⟩=>⟨x,a,b⟩⟩
   have cat: ∀n:Nat,n≤r.length→bs acc++s.extract i (i+1+n)=bs (acc++c::r.take n):=fun n hn=>by
    have e:s.extract i (i+1+n)=bs (c::r.take n):=by
     apply Gp
     rw[Dd]
     have:=bC (s:=s) (i:=i) (w:=c::r.take n) (r:=r.drop n) (by rw[hl];simp)
     rw[←this]
     congr 2
     rw[List.length_cons,List.length_take];omega
    rw[e,HX]
   have nd: ∀n:Nat,n≤r.length→(bs acc).size+(s.extract i (i+1+n)).size≤9223372036854775807:=fun n hn=>by
    rw[Bg,ByteArray.size_extract];omega
   refine Ah.intro (by kernel_rfl) ?_
   intro ν fr;have nuE:=fr.nu
   by_cases h35:c=35
   ·simp (maxDischargeDepth:=16) only[AX,↓AW,simprocAttr,forall_const,nuE,fr.2,CK,Al,Ae,A9,BP,hlt,li0,hb,we,q35,q35',eq_true h35]
    clear nuE fr
    subst h35
    rw[mX r w (decide (FB 10 r=0∧False))]at hpw
    have hu:=T5 10 r
    obtain⟨e,he0,he1,he2,hx⟩: ∃e:Nat,e=i+1∧i+1≤e∧e≤s.size∧i+1+FB 10 r=e+FB 10 (s.toList.drop e):=⟨i+1,rfl,by omega,by omega,by rw[hl']⟩
    rw[←he0]
    clear he0
    generalize hl2:s.toList.drop e=l2 at hx
    have cN:=cat (FB 10 r) hu
    have nN:=nd (FB 10 r) hu
    have li1:((i:Int)≤((i+1+FB 10 r:Nat):Int))=True:=eq_true (by omega)
    have li2:(((i+1+FB 10 r:Nat):Int)≤(s.size:Int))=True:=eq_true (by omega)
    have li3:(0≤(i:Int))=True:=eq_true (by omega)
    obtain⟨t1,t2,t3⟩:=step (FB 10 r) (decide (FB 10 r=0∧False)) hu (fun d t h4 h5=>by
     have hlt2:FB 10 r<r.length:=by
      have:=congrArg List.length h4
      simp at this;omega
     obtain⟨t',ht'⟩:=Tp 10 r hlt2
     rw[ht']at h4
     cases h4
     exact absurd h5 (by decide)) hpw
    have h9:=ih (s.size - (i+1+FB 10 r)) (by omega) (i+1+FB 10 r) _ _ (by omega) t1 t2 t3 rfl
    clear t1 t2 t3 ih
    induction l2 generalizing e with
    |nil=>
     have hend:=Cb hl2
     have lte:((e:Int)<(s.size:Int))=False:=eq_false (by omega)
     have ee:e=i+1+FB 10 r:=by rw[hx];rfl
     subst ee
     refine Ah.intro (by kernel_rfl) ?_
     intro ν fr;have nuE:=fr.nu
     simp (maxDischargeDepth:=16) only[AX,↓AW,simprocAttr,forall_const,nuE,fr.2,CK,Al,Ae,A9,BP,lte,li1,li2,li3,cN,nN]
     exact Ah.weak h9 (by simp only[BW,Ab,Nat.reduceEqDiff,↓reduceIte,reduceCtorEq,Nat.reduceAdd,and_self,and_true]) (SubA.refl _)
    | cons x l2 ih2=>
     obtain⟨_,_,hl2',_,hb2⟩:=CM hl2
     have lte:((e:Int)<(s.size:Int))=True:=eq_true (by have:=congrArg List.length hl2;rw[List.length_drop,BK,List.length_cons]at this;omega)
     have le0:((e:Int)<0)=False:=eq_false (by omega)
     have wee:IntKind.i64.wrap ((e:Int)+1)=((e+1:Nat):Int):=by rw[Ak (by omega) (by omega)];omega
     have x10':((x.toNat:Int)=10)=(x=10):=propext ⟨fun h=>by rw[←UInt8.toNat_inj];have:(10:UInt8).toNat=10:=rfl;omega,fun h=>by rw[h];rfl⟩
     by_cases hx10:x=10
     ·have ee:e=i+1+FB 10 r:=by rw[hx,FB,if_pos hx10];omega
      have xn:((x.toNat:Int) !=10)=false:=by rw[hx10];rfl
      subst ee
      refine Ah.intro (by kernel_rfl) ?_
      intro ν fr;have nuE:=fr.nu
      simp (maxDischargeDepth:=16) only[AX,↓AW,simprocAttr,forall_const,nuE,fr.2,CK,Al,Ae,A9,BP,lte,le0,hb2,xn,x10',eq_true hx10,li1,li2,li3,cN,nN]
      exact Ah.weak h9 (by simp only[BW,Ab,Nat.reduceEqDiff,↓reduceIte,reduceCtorEq,Nat.reduceAdd,and_self,and_true]) (SubA.refl _)
     ·have xn:((x.toNat:Int) !=10)=true:=by
       have: ¬(x.toNat:Int)=10:=by rw[x10'];exact hx10
       simp[this]
      refine Ah.intro (by kernel_rfl) ?_
      intro ν fr;have nuE:=fr.nu
      simp (maxDischargeDepth:=16) only[AX,↓AW,simprocAttr,forall_const,nuE,fr.2,CK,Al,Ae,A9,BP,lte,le0,hb2,xn,x10',eq_false hx10,wee]
      refine Ah.weak (ih2 (e+1) (by omega) ?_ hl2' ?_) (by simp only[BW,Ab,Nat.reduceEqDiff,↓reduceIte,reduceCtorEq,Nat.reduceAdd,and_self,and_true]) (SubA.refl _)
      ·have:=congrArg List.length hl2
       rw[List.length_drop,BK,List.length_cons]at this;omega
      ·rw[hx,FB,if_neg hx10];omega
   by_cases h34:c=34
   ·simp (maxDischargeDepth:=16) only[AX,↓AW,simprocAttr,forall_const,nuE,fr.2,CK,Al,Ae,A9,BP,hlt,li0,hb,we,q35,q35',eq_false h35,q34,q34',eq_true h34]
    clear nuE fr
    rw[Jf,if_neg h35,if_pos h34]at hpw
    have hu:=Jv 34 r
    have hut:=Pz 34 r
    obtain⟨e,he0,he1,he2,hx⟩: ∃e:Nat,e=i+1∧i+1≤e∧e≤s.size∧i+1+FB 34 r=e+FB 34 (s.toList.drop e):=⟨i+1,rfl,by omega,by omega,by rw[hl']⟩
    rw[←he0]
    clear he0
    generalize hl2:s.toList.drop e=l2 at hx
    have cN:=cat (Dz 34 r) hu
    have nN:=nd (Dz 34 r) hu
    have li1:((i:Int)≤((i+1+Dz 34 r:Nat):Int))=True:=eq_true (by omega)
    have li2:(((i+1+Dz 34 r:Nat):Int)≤(s.size:Int))=True:=eq_true (by omega)
    have li3:(0≤(i:Int))=True:=eq_true (by omega)
    obtain⟨t1,t2,t3⟩:=step (Dz 34 r) false hu (fun d t h4 h5=>by
     obtain⟨u1,u2⟩:=JH r (by rw[h4];simp)
     constructor
     ·intro h;cases h
     ·rintro⟨x,hx,hx2⟩
      rw[show Dz 34 r=Dz 34 r - 1+1 by omega,List.getElem?_cons_succ,u2]at hx
      cases hx;exact absurd hx2 (by decide)) hpw
    have h9:=ih (s.size - (i+1+Dz 34 r)) (by omega) (i+1+Dz 34 r) _ _ (by omega) t1 t2 t3 rfl
    clear t1 t2 t3 ih
    induction l2 generalizing e with
    |nil=>
     have hend:=Cb hl2
     have lte:((e:Int)<(s.size:Int))=False:=eq_false (by omega)
     have ee:e=i+1+FB 34 r:=by rw[hx];rfl
     have eu:e=i+1+Dz 34 r:=by rw[hut,if_neg (by omega)];exact ee
     rw[eu]at lte⊢
     refine Ah.intro (by kernel_rfl) ?_
     intro ν fr;have nuE:=fr.nu
     simp (maxDischargeDepth:=16) only[AX,↓AW,simprocAttr,forall_const,nuE,fr.2,CK,Al,Ae,A9,BP,lte,li1,li2,li3,cN,nN]
     exact Ah.weak h9 (by simp only[BW,Ab,Nat.reduceEqDiff,↓reduceIte,reduceCtorEq,Nat.reduceAdd,and_self,and_true]) (SubA.refl _)
    | cons x l2 ih2=>
     obtain⟨_,_,hl2',_,hb2⟩:=CM hl2
     have lte:((e:Int)<(s.size:Int))=True:=eq_true (by have:=congrArg List.length hl2;rw[List.length_drop,BK,List.length_cons]at this;omega)
     have le0:((e:Int)<0)=False:=eq_false (by omega)
     have wee:IntKind.i64.wrap ((e:Int)+1)=((e+1:Nat):Int):=by rw[Ak (by omega) (by omega)];omega
     have x34':((x.toNat:Int)=34)=(x=34):=propext ⟨fun h=>by rw[←UInt8.toNat_inj];have:(34:UInt8).toNat=34:=rfl;omega,fun h=>by rw[h];rfl⟩
     by_cases hx34:x=34
     ·have ee:e=i+1+FB 34 r:=by rw[hx,FB,if_pos hx34];omega
      have hel:e<s.size:=by have:=congrArg List.length hl2;rw[List.length_drop,BK,List.length_cons]at this;omega
      have eu:IntKind.i64.wrap ((e:Int)+1)=((i+1+Dz 34 r:Nat):Int):=by rw[wee,hut,if_pos (by omega)];omega
      have xn:((x.toNat:Int) !=34)=false:=by rw[hx34];rfl
      refine Ah.intro (by kernel_rfl) ?_
      intro ν fr;have nuE:=fr.nu
      simp (maxDischargeDepth:=16) only[AX,↓AW,simprocAttr,forall_const,nuE,fr.2,CK,Al,Ae,A9,BP,lte,le0,hb2,xn,x34',eq_true hx34,eu,li1,li2,li3,cN,nN]
      exact Ah.weak h9 (by simp only[BW,Ab,Nat.reduceEqDiff,↓reduceIte,reduceCtorEq,Nat.reduceAdd,and_self,and_true]) (SubA.refl _)
     ·have xn:((x.toNat:Int) !=34)=true:=by
       have: ¬(x.toNat:Int)=34:=by rw[x34'];exact hx34
       simp[this]
      refine Ah.intro (by kernel_rfl) ?_
      intro ν fr;have nuE:=fr.nu
      simp (maxDischargeDepth:=16) only[AX,↓AW,simprocAttr,forall_const,nuE,fr.2,CK,Al,Ae,A9,BP,lte,le0,hb2,xn,x34',eq_false hx34,wee]
      refine Ah.weak (ih2 (e+1) (by omega) ?_ hl2' ?_) (by simp only[BW,Ab,Nat.reduceEqDiff,↓reduceIte,reduceCtorEq,Nat.reduceAdd,and_self,and_true]) (SubA.refl _)
      ·have:=congrArg List.length hl2
       rw[List.length_drop,BK,List.length_cons]at this;omega
      ·rw[hx,FB,if_neg hx34];omega
   rw[Jf,if_neg h35,if_neg h34]at hpw
   have plain:acc++c::pW (CH c.toNat) r=ZR s.toList→_:=fun h=>step 0 (CH c.toNat) (Nat.zero_le _) (fun d t h4 h5=>⟨fun h=>⟨c,rfl,h⟩,fun⟨x,hx,h⟩=>by cases hx;exact h⟩) (by rw[List.take_zero,List.drop_zero,List.nil_append];exact h)
   have w0:=hw c r hl
   have cN:=cat 0 (Nat.zero_le _)
   have nN:=nd 0 (Nat.zero_le _)
   rw[Nat.add_zero]at cN nN
   have li1:((i:Int)≤((i+1:Nat):Int))=True:=eq_true (by omega)
   have li2:(((i+1:Nat):Int)≤(s.size:Int))=True:=eq_true (by omega)
   have li3:(0≤(i:Int))=True:=eq_true (by omega)
   cases hdg:BH c.toNat with
   |false=>
    rw[if_neg (by rw[hdg];simp)]at hpw
    simp (maxDischargeDepth:=16) only[AX,↓AW,simprocAttr,forall_const,nuE,fr.2,CK,Al,Ae,A9,BP,hlt,li0,hb,q35,q35',eq_false h35,q34,q34',eq_false h34,hdg,we,li1,li2,li3,cN,nN]
    obtain⟨s1,s2,s3⟩:=plain hpw
    rw[List.take_zero,Nat.add_zero]at s1 s2
    rw[Nat.add_zero]at s3
    exact Ah.weak (ih (s.size - (i+1)) (by omega) (i+1) (CH c.toNat) _ (by omega) s1 s2 s3 rfl) (by simp only[BW,Ab,Nat.reduceEqDiff,↓reduceIte,reduceCtorEq,Nat.reduceAdd,and_self,and_true]) (SubA.refl _)
   |true=>
   have w1:=w0 hdg
   have hwc:CH c.toNat=true:=by simp[CH,hdg]
   by_cases hwt:w=true
   ·obtain⟨d,hi0,hd1,hd2⟩:=w1.1 hwt
    rw[if_neg (by rw[hwt];simp)]at hpw
    have z1:((i:Int)=0)=False:=eq_false (by omega)
    have z2:((i:Int)==0)=false:=by simp;omega
    have wm:IntKind.i64.wrap ((i:Int) - 1)=((i - 1:Nat):Int):=by rw[Ak (by omega) (by omega)];omega
    have lm:(((i - 1:Nat):Int)<0)=False:=eq_false (by omega)
    have hbm:s.data[i - 1]? =some d:=by rw[←hd1,ByteArray.toList_eq,Array.getElem?_toList]
    simp (maxDischargeDepth:=16) only[AX,↓AW,simprocAttr,forall_const,nuE,fr.2,CK,Al,Ae,A9,BP,hlt,li0,hb,q35,q35',eq_false h35,q34,q34',eq_false h34,hdg,we,z1,z2,wm,lm,hbm,hd2,li1,li2,li3,cN,nN]
    obtain⟨s1,s2,s3⟩:=plain hpw
    rw[List.take_zero,Nat.add_zero]at s1 s2
    rw[Nat.add_zero]at s3
    exact Ah.weak (ih (s.size - (i+1)) (by omega) (i+1) (CH c.toNat) _ (by omega) s1 s2 s3 rfl) (by simp only[BW,Ab,Nat.reduceEqDiff,↓reduceIte,reduceCtorEq,Nat.reduceAdd,and_self,and_true]) (SubA.refl _)
   have hwf:w=false:=by simpa using hwt
   rw[if_pos ⟨hdg,hwf⟩]at hpw
   have fv:=BP s i (by omega) hs
   have hfr:=nR (s:=s) (i:=i) (by rw[hl];simp[Av,hdg])
   have hle:=mb s i (by omega)
   rw[hl]at hfr
   generalize MW s i=T at fv hfr hle
   obtain⟨a,b,h⟩:=T
   simp only at fv hfr hle
   -- what stands before decides that a number begins here
   have first:((i:Int)=0)=True∧((i:Int)==0)=true∨ ∃d,((i:Int)=0)=False∧((i:Int)==0)=false∧IntKind.i64.wrap ((i:Int) - 1)=((i - 1:Nat):Int)∧(((i - 1:Nat):Int)<0)=False∧s.data[i - 1]? =some d∧CH d.toNat=false:=by
    rcases Nat.eq_zero_or_pos i with hi0|hi0
    ·exact .inl ⟨eq_true (by omega),by simp;omega⟩
    ·obtain⟨d,hd⟩: ∃d,s.toList[i - 1]? =some d:=⟨_,List.getElem?_eq_getElem (by rw[BK];omega)⟩
     refine .inr ⟨d,eq_false (by omega),by simp;omega,by rw[Ak (by omega) (by omega)];omega,eq_false (by omega),by rw[←hd,ByteArray.toList_eq,Array.getElem?_toList], ?_⟩
     cases hw2:CH d.toNat with
     |false=>rfl
     |true=>rw[w1.2 ⟨d,hi0,hd,hw2⟩]at hwf;cases hwf
   cases h with
   | false=>
    rw[if_neg (by simp)]at hfr
    rw[hfr]at hpw
    simp only at hpw
    rw[←hwc]at hpw
    obtain⟨s1,s2,s3⟩:=plain hpw
    rw[List.take_zero,Nat.add_zero]at s1 s2
    rw[Nat.add_zero]at s3
    have h9:=ih (s.size - (i+1)) (by omega) (i+1) (CH c.toNat) _ (by omega) s1 s2 s3 rfl
    rcases first with⟨z1,z2⟩|⟨d,z1,z2,wm,lm,hbm,hd2⟩
    ·simp (maxDischargeDepth:=16) only[AX,↓AW,simprocAttr,forall_const,nuE,fr.2,CK,Al,Ae,A9,BP,hlt,li0,hb,q35,q35',eq_false h35,q34,q34',eq_false h34,hdg,we,z1,z2,fv,li1,li2,li3,cN,nN]
     exact Ah.weak h9 (by simp only[BW,Ab,Nat.reduceEqDiff,↓reduceIte,reduceCtorEq,Nat.reduceAdd,and_self,and_true]) (SubA.refl _)
    ·simp (maxDischargeDepth:=16) only[AX,↓AW,simprocAttr,forall_const,nuE,fr.2,CK,Al,Ae,A9,BP,hlt,li0,hb,q35,q35',eq_false h35,q34,q34',eq_false h34,hdg,we,z1,z2,wm,lm,hbm,hd2,fv,li1,li2,li3,cN,nN]
     exact Ah.weak h9 (by simp only[BW,Ab,Nat.reduceEqDiff,↓reduceIte,reduceCtorEq,Nat.reduceAdd,and_self,and_true]) (SubA.refl _)
   | true=>
    rw[if_pos rfl]at hfr
    obtain⟨f1,f2,f3⟩:=Gt hfr
    rw[List.length_cons]at f2
    rw[hfr]at hpw
    simp only at hpw
    have hT:a - i=Av (c::r):=f1
    have hge:1≤Av (c::r):=by simp[Av,hdg]
    have hab:i+(a - i)=a:=by omega
    have cA:bs acc++s.extract i a=bs (acc++(c::r).take (a - i)):=by
     have e:s.extract i a=bs ((c::r).take (a - i)):=by
      apply Gp
      rw[Dd]
      have:=bC (s:=s) (i:=i) (w:=(c::r).take (a - i)) (r:=(c::r).drop (a - i)) (by rw[hl];simp)
      rw[←this]
      congr 2
      rw[List.length_take,List.length_cons];omega
     rw[e,HX]
    have nA:(bs acc).size+(s.extract i a).size≤9223372036854775807:=by rw[Bg,ByteArray.size_extract];omega
    have la1:((i:Int)≤(a:Int))=True:=eq_true (by omega)
    have la2:((a:Int)≤(s.size:Int))=True:=eq_true (by omega)
    have hdb:s.toList.drop b=(c::r).drop (a - i+(b - a)):=by rw[←hl,List.drop_drop];congr 1;omega
    obtain⟨t37,h37⟩:=Tx hfr
    have h9:=fun acc' (hacc:acc'=acc++(c::r).take (a - i)++List.replicate (b - a) 32)=>ih (s.size - b) (by omega) b false acc' (by omega) (by rw[hacc,List.length_append,List.length_append,List.length_take,List.length_replicate,List.length_cons];omega) (by rw[hacc,hdb,←hpw];simp) (by
     intro d t h4 h5
     rw[hdb,h37]at h4
     cases h4
     exact absurd h5 (by decide)) rfl
    have hal2:(acc++(c::r).take (a - i)).length=a:=by rw[List.length_append,List.length_take,List.length_cons];omega
    rcases first with⟨z1,z2⟩|⟨d,z1,z2,wm,lm,hbm,hd2⟩
    ·simp (maxDischargeDepth:=16) only[AX,↓AW,simprocAttr,forall_const,nuE,fr.2,CK,Al,Ae,A9,BP,hlt,li0,hb,q35,q35',eq_false h35,q34,q34',eq_false h34,hdg,we,z1,z2,fv,la1,la2,li3,cA,nA]
     clear nuE fr
     obtain⟨k,t,hk0,ht0,hka,hkb,ht⟩: ∃(k:Nat) (t:List UInt8),k=a∧t=acc++(c::r).take (a - i)∧a≤k∧k≤b∧t=acc++(c::r).take (a - i)++List.replicate (k - a) 32:=⟨a,_,rfl,rfl,by omega,by omega,by simp⟩
     rw[show(9,some (Value.int .i64 (a:Int)))=(9,some (Value.int .i64 (k:Int))) by rw[hk0],←ht0]
     clear hk0 ht0
     generalize hn:b - k=n
     induction n generalizing k t with
     |zero=>
      have lk:((k:Int)<(b:Int))=False:=eq_false (by omega)
      have ek:k=b:=by omega
      refine Ah.intro (by kernel_rfl) ?_
      intro ν fr;have nuE:=fr.nu
      simp (maxDischargeDepth:=16) only[AX,↓AW,simprocAttr,forall_const,nuE,fr.2,CK,Al,Ae,A9,BP,lk]
      exact Ah.weak (h9 t (by rw[ht,ek])) (by simp only[BW,Ab,Nat.reduceEqDiff,↓reduceIte,reduceCtorEq,Nat.reduceAdd,and_self,and_true]) (SubA.refl _)
     |succ n ihn=>
      have lk:((k:Int)<(b:Int))=True:=eq_true (by omega)
      have wk:IntKind.i64.wrap ((k:Int)+1)=((k+1:Nat):Int):=by rw[Ak (by omega) (by omega)];omega
      have l32:(ByteArray.mk #[32])=bs [32]:=rfl
      have htl:t.length=k:=by rw[ht,List.length_append,List.length_replicate,hal2];omega
      have n32:(bs t).size+(bs [32]).size≤9223372036854775807:=by rw[Bg,Bg,htl];simp;omega
      refine Ah.intro (by kernel_rfl) ?_
      intro ν fr;have nuE:=fr.nu
      simp (maxDischargeDepth:=16) only[AX,↓AW,simprocAttr,forall_const,nuE,fr.2,CK,Al,Ae,A9,BP,lk,wk,l32,n32,HX]
      refine Ah.weak (ihn (k+1) (t++[32]) (by omega) (by omega) ?_ (by omega)) (by simp only[BW,Ab,Nat.reduceEqDiff,↓reduceIte,reduceCtorEq,Nat.reduceAdd,and_self,and_true]) (SubA.refl _)
      rw[ht,show k+1 - a=k - a+1 by omega,List.replicate_succ']
      simp
    ·simp (maxDischargeDepth:=16) only[AX,↓AW,simprocAttr,forall_const,nuE,fr.2,CK,Al,Ae,A9,BP,hlt,li0,hb,q35,q35',eq_false h35,q34,q34',eq_false h34,hdg,we,z1,z2,wm,lm,hbm,hd2,fv,la1,la2,li3,cA,nA]
     clear nuE fr
     obtain⟨k,t,hk0,ht0,hka,hkb,ht⟩: ∃(k:Nat) (t:List UInt8),k=a∧t=acc++(c::r).take (a - i)∧a≤k∧k≤b∧t=acc++(c::r).take (a - i)++List.replicate (k - a) 32:=⟨a,_,rfl,rfl,by omega,by omega,by simp⟩
     rw[show(9,some (Value.int .i64 (a:Int)))=(9,some (Value.int .i64 (k:Int))) by rw[hk0],←ht0]
     clear hk0 ht0
     generalize hn:b - k=n
     induction n generalizing k t with
     |zero=>
      have lk:((k:Int)<(b:Int))=False:=eq_false (by omega)
      have ek:k=b:=by omega
      refine Ah.intro (by kernel_rfl) ?_
      intro ν fr;have nuE:=fr.nu
      simp (maxDischargeDepth:=16) only[AX,↓AW,simprocAttr,forall_const,nuE,fr.2,CK,Al,Ae,A9,BP,lk]
      exact Ah.weak (h9 t (by rw[ht,ek])) (by simp only[BW,Ab,Nat.reduceEqDiff,↓reduceIte,reduceCtorEq,Nat.reduceAdd,and_self,and_true]) (SubA.refl _)
     |succ n ihn=>
      have lk:((k:Int)<(b:Int))=True:=eq_true (by omega)
      have wk:IntKind.i64.wrap ((k:Int)+1)=((k+1:Nat):Int):=by rw[Ak (by omega) (by omega)];omega
      have l32:(ByteArray.mk #[32])=bs [32]:=rfl
      have htl:t.length=k:=by rw[ht,List.length_append,List.length_replicate,hal2];omega
      have n32:(bs t).size+(bs [32]).size≤9223372036854775807:=by rw[Bg,Bg,htl];simp;omega
      refine Ah.intro (by kernel_rfl) ?_
      intro ν fr;have nuE:=fr.nu
      simp (maxDischargeDepth:=16) only[AX,↓AW,simprocAttr,forall_const,nuE,fr.2,CK,Al,Ae,A9,BP,lk,wk,l32,n32,HX]
      refine Ah.weak (ihn (k+1) (t++[32]) (by omega) (by omega) ?_ (by omega)) (by simp only[BW,Ab,Nat.reduceEqDiff,↓reduceIte,reduceCtorEq,Nat.reduceAdd,and_self,and_true]) (SubA.refl _)
      rw[ht,show k+1 - a=k - a+1 by omega,List.replicate_succ']
      simp
theorem BL(s:ByteArray)(hs:s.size≤100000)(A_:AH):B5 Tryz.prog 21 #[.string s] A_=some (.string (Cc s)):=Bk (CN (by kernel_rfl) (bz s hs))
end Go.Proofs.YtfphceknmgadgaaGreatDoor
namespace Go.Proofs.YtfphceknmgadgaaGreatDoor
open Go.Vm
set_option maxHeartbeats 4000000
set_option maxRecDepth 20000
theorem Fi: ∀b:List UInt8,((b.take (Av b)).all fun c=>BH c.toNat)=true
 | []=>rfl
 |c::b=>by
  have:=Fi b
  simp only[Av]
  cases h:BH c.toNat with
  |false=>simp
  |true=>simp only[if_true,List.take_succ_cons,List.all_cons,h,this,Bool.and_self]
theorem P8(b:List UInt8):Av (b++[37])=Av b:=by
 induction b with
 |nil=>rfl
 |cons c b ih=>simp only[List.cons_append,Av,ih]
def TX:List UInt8→Option Nat
 | []=>some 0
 |c::f=>if c≠46∨2<f.length∨Dq f=false∨f.getLast? =some 48 then none else some (if f.length=2 then CX f else CX f*10)
theorem T0(b:List UInt8):Ff (b++[37])=(if TY (b.take (Av b))=false then(0,2)
 else match b.drop (Av b)with
  | []=>if 3<Av b then(0,4)else if 10000<CX (b.take (Av b))*100 then(0,4)else((CX (b.take (Av b))*100:Nat),0)
  |c::f=>if c≠46∨2<f.length∨Dq f=false∨f.getLast? =some 48 then(0,2)
   else if 3<Av b then(0,4)
   else if 10000<CX (b.take (Av b))*100+(if f.length=2 then CX f else CX f*10)then(0,4)
   else((CX (b.take (Av b))*100+(if f.length=2 then CX f else CX f*10):Nat),0):Int×Int):=by
 unfold Ff
 rw[if_neg (by simp),if_neg (by simp),List.dropLast_concat]
 rfl
theorem Tl{l:List UInt8}(h0:l≠[])(h:l.getLast? ≠some 37):Ff l=(0,2):=by
 unfold Ff
 rw[if_neg h0,if_pos h]
theorem oX(b:List UInt8)(hw:TY (b.take (Av b))=true):Ff (b++[37])=(match TX (b.drop (Av b))with
 |none=>(0,2)
 |some v=>if 3<Av b then(0,4)else if 10000<CX (b.take (Av b))*100+v then(0,4)else((CX (b.take (Av b))*100+v:Nat),0):Int×Int):=by
 rw[T0,if_neg (by rw[hw];simp)]
 cases hq:b.drop (Av b)with
 |nil=>rfl
 |cons c f=>
  simp only[TX]
  by_cases h:c≠46∨2<f.length∨Dq f=false∨f.getLast? =some 48
  ·rw[if_pos h,if_pos h]
  ·rw[if_neg h,if_neg h]
theorem gw{b:List UInt8}{c:UInt8}{r:List UInt8}(hb:b=c::r)(hd:0<Av b):TY (b.take (Av b))= !(decide (1<Av b)&&decide (c=48)):=by
 have h1:=Fi b
 have h2:=EK b
 have hl:(b.take (Av b)).length=Av b:=by rw[List.length_take];omega
 have hh:(b.take (Av b)).head? =some c:=by rw[hb]at hd ⊢;cases hq:Av (c::r)with|zero=>omega|succ n=>rfl
 have hne:(b.take (Av b)).isEmpty=false:=by
  cases hq:b.take (Av b)with
  |nil=>rw[hq]at hl;simp at hl;omega
  |cons _ _=>rfl
 unfold TY Dq
 rw[h1,hl,hh,hne]
 simp
theorem G1(c:UInt8):((c.toNat:Int)=48)=(c=48):=propext ⟨fun h=>by rw[←UInt8.toNat_inj];have:(48:UInt8).toNat=48:=rfl;omega,fun h=>by rw[h];rfl⟩
theorem Ta(c:UInt8):((c.toNat:Int)==48)=decide (c=48):=by
 by_cases h:c=48
 ·subst h;rfl
 ·have h2: ¬(c.toNat:Int)=48:=by rw[G1];exact h
  simp[h,h2]
theorem qA(c:UInt8):((c.toNat:Int) !=37)= !decide (c=37):=by
 by_cases h:c=37
 ·subst h;rfl
 ·have h2: ¬(c.toNat:Int)=37:=by rw[aJ];exact h
  simp[h,h2]
theorem KJ(l:List UInt8)(i:Nat):(bs l).data[i]? =l[i]? :=by simp[bs]
theorem mS(s:ByteArray)(hs:s.size≤100000):AM Tryz.prog 66 #[.string s] [] (fun u_ _=>u_=.tuple #[.int .i64 (Ff s.toList).1,.int .i64 (Ff s.toList).2]):=by
 refine AR ⟨Tryz.prog,66,Tryz.f66,106,[0,2,3,4,5,6,7],⟨[],none⟩,[],_⟩ rfl (args:=[_]) Tryz.func66 rfl (by kernel_rfl) Tryz.ntmps66 (by simp) (by kernel_rfl) ?_
 intro ν fr;have nuE:=fr.nu
 by_cases h0:s.toList=[]
 ·have hr:Ff s.toList=(0,1):=by unfold Ff;rw[if_pos h0]
  rw[hr]
  simp (maxDischargeDepth:=16) only[AX,↓AW,simprocAttr,forall_const,nuE,fr.2,CK,Al,Ae,A9,BP,BL,eq_true h0]
 have ne0:=eq_false h0
 obtain⟨l,hl⟩: ∃l,s.toList=l:=⟨_,rfl⟩
 have hsz:s.size=l.length:=by rw[←hl,BK]
 have at_: ∀i,s.data[i]? =l[i]? :=fun i=>by rw[←hl,ByteArray.toList_eq,Array.getElem?_toList]
 have ad: ∀A,B5 Tryz.prog 85 #[.string s,.int .i64 0] A=some (.int .i64 ((Av l:Nat):Int)):=fun A=>by
  have:=A9 s 0 (by omega) hs A
  rw[List.drop_zero,hl,Nat.zero_add]at this
  exact this
 rw[hl]at h0⊢
 obtain⟨c0,l',hc⟩: ∃c0 l',l=c0::l':=by
  cases l with
  |nil=>exact absurd rfl h0
  |cons c l'=>exact⟨c,l',rfl⟩
 have hpos:0<s.size:=by rw[hsz,hc];simp
 have i0:s.data[0]? =some c0:=by rw[at_,hc];rfl
 have wm:IntKind.i64.wrap ((s.size:Int) - 1)=((s.size - 1:Nat):Int):=by rw[Ak (by omega) (by omega)];omega
 have lm:(((s.size - 1:Nat):Int)<0)=False:=eq_false (by omega)
 have dle:=EK l
 by_cases hd0:Av l=0
 ·have hr:Ff l=(0,2):=by
   by_cases h37:l.getLast? =some 37
   ·obtain⟨b,hb⟩: ∃b,l=b++[37]:=List.getLast?_eq_some_iff.1 h37
    rw[hb]at hd0⊢
    rw[P8]at hd0
    rw[T0,hd0,List.take_zero,if_pos (show TY []=false from rfl)]
   ·exact Tl h0 h37
  rw[hr]
  rw[hd0]at ad
  simp (maxDischargeDepth:=16) only[AX,↓AW,simprocAttr,forall_const,nuE,fr.2,CK,Al,Ae,A9,BP,BL,ne0,ad]
 have dz:(((Av l:Nat):Int)=0)=False:=eq_false (by omega)
 have dzb:(((Av l:Nat):Int)==0)=false:=by simp;omega
 by_cases hz:c0=48∧1<Av l
 ·have hr:Ff l=(0,2):=by
   by_cases h37:l.getLast? =some 37
   ·obtain⟨b,hb⟩: ∃b,l=b++[37]:=List.getLast?_eq_some_iff.1 h37
    have hd1:=hz.2
    rw[hb,P8]at hd1
    obtain⟨r,hbr⟩: ∃r,b=c0::r:=by
     cases b with
     |nil=>simp[Av]at hd1
     |cons x r=>rw[hb]at hc;cases hc;exact⟨r,rfl⟩
    rw[hb,T0,gw hbr (by omega),if_pos (by simp[hz.1,hd1])]
   ·exact Tl h0 h37
  rw[hr]
  have g1:(1<((Av l:Nat):Int))=True:=eq_true (by omega)
  simp (maxDischargeDepth:=16) only[AX,↓AW,simprocAttr,forall_const,nuE,fr.2,CK,Al,Ae,A9,BP,BL,ne0,ad,dz,dzb,i0,Ta,G1,eq_true hz.1,g1]
 have hzz:c0=48→(1<((Av l:Nat):Int))=False:=fun h=>eq_false (by have: ¬1<Av l:=fun h2=>hz ⟨h,h2⟩;omega)
 obtain⟨z,hz37⟩: ∃z,l.getLast? =some z:=by rw[hc];exact⟨_,List.getLast?_cons⟩
 have iz:s.data[s.size - 1]? =some z:=by rw[at_,hsz,←List.getLast?_eq_getElem?];exact hz37
 by_cases h37:z=37
 rotate_left
 ·have hr:Ff l=(0,2):=Tl h0 (by rw[hz37];simp[h37])
  rw[hr]
  by_cases h48:c0=48
  ·simp (maxDischargeDepth:=16) only[AX,↓AW,simprocAttr,forall_const,nuE,fr.2,CK,Al,Ae,A9,BP,BL,ne0,ad,dz,dzb,i0,Ta,G1,eq_true h48,hzz h48,wm,lm,iz,qA,aJ,eq_false h37]
  ·simp (maxDischargeDepth:=16) only[AX,↓AW,simprocAttr,forall_const,nuE,fr.2,CK,Al,Ae,A9,BP,BL,ne0,ad,dz,dzb,i0,Ta,G1,eq_false h48,wm,lm,iz,qA,aJ,eq_false h37]
 rw[h37]at hz37 iz
 obtain⟨b,hb⟩: ∃b,l=b++[37]:=List.getLast?_eq_some_iff.1 hz37
 have hdb:Av l=Av b:=by rw[hb,P8]
 have hsb:s.size=b.length+1:=by rw[hsz,hb];simp
 have dleb:=EK b
 obtain⟨d,hd⟩: ∃d,Av b=d:=⟨_,rfl⟩
 rw[hdb]at ad dz dzb hzz hd0
 rw[hd]at ad dz dzb hzz hd0 dleb
 obtain⟨r,hbr⟩: ∃r,b=c0::r:=by
  cases b with
  |nil=>simp[Av]at hd;omega
  |cons x r=>rw[hb]at hc;cases hc;exact⟨r,rfl⟩
 have hw:TY (b.take (Av b))=true:=by
  rw[gw hbr (by omega),hd]
  simp only[Bool.not_eq_true',Bool.and_eq_false_iff,decide_eq_false_iff_not]
  by_cases h:c0=48
  ·left;have:=hzz h;intro h2;exact of_eq_false this (by omega)
  ·right;exact h
 have hres:=oX b hw
 rw[←hb,hd]at hres
 obtain⟨p,hp⟩: ∃p,b.drop d=p:=⟨_,rfl⟩
 rw[hp]at hres
 have hpl:p.length=b.length - d:=by rw[←hp,List.length_drop]
 have hex:s.extract d (s.size - 1)=bs p:=by
  apply Gp
  rw[Dd]
  have:=bC (s:=s) (i:=d) (w:=p) (r:=[37]) (by rw[hl,hb,List.drop_append_of_le_length (by omega),hp])
  rw[←this]
  congr 2
  omega
 have s1:(0≤(d:Int))=True:=eq_true (by omega)
 have s2:((d:Int)≤((s.size - 1:Nat):Int))=True:=eq_true (by omega)
 have s3:(((s.size - 1:Nat):Int)≤(s.size:Int))=True:=eq_true (by omega)
 have first:(((c0.toNat:Int)==48)=true∧((c0.toNat:Int)=48)=True∧(1<(d:Int))=False)∨(((c0.toNat:Int)==48)=false∧((c0.toNat:Int)=48)=False):=by
  by_cases h:c0=48
  ·exact .inl ⟨by rw[Ta];simp[h],by rw[G1];exact eq_true h,hzz h⟩
  ·exact .inr ⟨by rw[Ta];simp[h],by rw[G1];exact eq_false h⟩
 have i37:(((37:UInt8).toNat:Int) !=37)=false:=rfl
 have i37':(((37:UInt8).toNat:Int)=37)=True:=eq_true rfl
 -- the digits in front
 obtain⟨w,hwd⟩: ∃w,b.take d=w:=⟨_,rfl⟩
 have hwa:=Fi b
 rw[hd,hwd]at hwa
 rw[hwd]at hres
 have hwl:w.length=d:=by rw[←hwd,List.length_take];omega
 have hwat: ∀i c,w[i]? =some c→s.data[i]? =some c:=fun i c h=>by
  rw[at_,hb]
  have hi:=(List.getElem?_eq_some_iff.1 h).1
  rw[←hwd,List.getElem?_take,if_pos (by omega)]at h
  rw[List.getElem?_append_left (List.getElem?_eq_some_iff.1 h).1];exact h
 have u8w: ∀c:UInt8,BH c.toNat=true→IntKind.u8.wrap ((c.toNat:Int) - 48)=((c.toNat - 48:Nat):Int)∧c.toNat - 48≤9:=fun c h=>by
  have:=Cf h
  refine⟨?_,by omega⟩
  rw[Ha (by omega) (by omega)];omega
 clear hwd hw hc hbr hz hz37 hb at_ hd
 rcases first with⟨f1,f1',f1g⟩|⟨f1,f1'⟩
 ·cases p with
  | nil=>
   have p0:((bs ([]:List UInt8)).toList=[])=True:=eq_true (Dd _)
   have g4:(1<((bs ([]:List UInt8)).size:Int))=False:=eq_false (by rw[Bg];simp)
   have g5:(2<((bs ([]:List UInt8)).size:Int))=False:=eq_false (by rw[Bg];simp)
   have hv:TX []=some (0):=rfl
   rw[hv]at hres
   simp only at hres
   by_cases h3:3<d
   ·rw[if_pos h3]at hres
    rw[hres]
    have k3:(3<(d:Int))=True:=eq_true (by omega)
    simp (maxDischargeDepth:=16) only[AX,↓AW,simprocAttr,forall_const,nuE,fr.2,CK,Al,Ae,A9,BP,BL,ne0,ad,dz,dzb,i0,f1,f1',f1g,wm,lm,iz,i37,i37',s1,s2,s3,hex,p0,k3]
   rw[if_neg h3]at hres
   have k3:(3<(d:Int))=False:=eq_false (by omega)
   simp (maxDischargeDepth:=16) only[AX,↓AW,simprocAttr,forall_const,nuE,fr.2,CK,Al,Ae,A9,BP,BL,ne0,ad,dz,dzb,i0,f1,f1',f1g,wm,lm,iz,i37,i37',s1,s2,s3,hex,p0,k3]
   clear nuE fr
   obtain⟨e,acc,l2,he0,ha0,hle,hd2,hac,hval⟩: ∃(e acc:Nat) (l2:List UInt8),e=0∧acc=0∧e≤w.length∧l2=w.drop e∧acc<10 ^ e∧CX w=CE l2 acc:=⟨0,0,_,rfl,rfl,by omega,rfl,by decide,rfl⟩
   rw[show(7,some (Value.int .i64 0))=(7,some (Value.int .i64 (e:Int))) by rw[he0];rfl,show(6,some (Value.int .i64 0))=(6,some (Value.int .i64 (acc:Int))) by rw[ha0];rfl]
   clear he0 ha0
   have hbd: ∀e:Nat,e≤3→10 ^ e≤1000:=fun e h=>Nat.pow_le_pow_right (n:=10) (by decide) h
   induction l2 generalizing e acc with
   | nil=>
    obtain⟨hn1,hn2⟩:=drop_nil hd2 hle
    have le:((e:Int)<(d:Int))=False:=eq_false (by omega)
    have hb1:=hbd e (by omega)
    rw[show CX w=acc from hval]at hres
    have m100:IntKind.i64.wrap ((acc:Int)*100)=((acc*100:Nat):Int):=by rw[Ak (by omega) (by omega)];omega
    rw[Nat.add_zero]at hres
    refine Ah.intro (by kernel_rfl) ?_
    intro ν fr;have nuE:=fr.nu
    by_cases hbig:10000<acc*100
    ·rw[if_pos hbig]at hres
     have kb:(10000<((acc*100:Nat):Int))=True:=eq_true (by omega)
     rw[hres]
     simp (maxDischargeDepth:=16) only[AX,↓AW,simprocAttr,forall_const,nuE,fr.2,CK,Al,Ae,A9,BP,BL,le,m100,g4,g5,kb]
    rw[if_neg hbig]at hres
    have kb:(10000<((acc*100:Nat):Int))=False:=eq_false (by omega)
    rw[hres]
    simp (maxDischargeDepth:=16) only[AX,↓AW,simprocAttr,forall_const,nuE,fr.2,CK,Al,Ae,A9,BP,BL,le,m100,g4,g5,kb]
   |cons c l2 ihl=>
    obtain⟨ha,hlt,hd',htk⟩:=Dj hd2
    have le:((e:Int)<(d:Int))=True:=eq_true (by omega)
    have le0:((e:Int)<0)=False:=eq_false (by omega)
    have we:IntKind.i64.wrap ((e:Int)+1)=((e+1:Nat):Int):=by rw[Ak (by omega) (by omega)];omega
    have hcd:BH c.toNat=true:=List.all_eq_true.1 hwa c (List.mem_of_getElem? ha)
    obtain⟨c1,c2⟩:=u8w c hcd
    have hb1:=hbd e (by omega)
    have hce:=hwat e c ha
    have wc:IntKind.i64.wrap ((c.toNat - 48:Nat):Int)=((c.toNat - 48:Nat):Int):=Ak (by omega) (by omega)
    have m10:IntKind.i64.wrap ((acc:Int)*10)=((10*acc:Nat):Int):=by rw[Ak (by omega) (by omega)];omega
    have ms:IntKind.i64.wrap (((10*acc:Nat):Int)+((c.toNat - 48:Nat):Int))=((10*acc+(c.toNat - 48):Nat):Int):=by rw[Ak (by omega) (by omega)];omega
    refine Ah.intro (by kernel_rfl) ?_
    intro ν fr;have nuE:=fr.nu
    simp (maxDischargeDepth:=16) only[AX,↓AW,simprocAttr,forall_const,nuE,fr.2,CK,Al,Ae,A9,BP,BL,le,le0,hce,c1,wc,m10,ms,we]
    exact Ah.weak (ihl (e+1) (10*acc+(c.toNat - 48)) (by omega) hd' (by rw[Nat.pow_succ];omega) (by rw[hval,CE])) (by simp only[BW,Ab,Nat.reduceEqDiff,↓reduceIte,reduceCtorEq,Nat.reduceAdd,and_self,and_true]) (SubA.refl _)
  | cons x f=>
   have p0:((bs (x::f)).toList=[])=False:=eq_false (by rw[Dd];simp)
   have px:(bs (x::f)).data[0]? =some x:=by rw[KJ];rfl
   have psz:(bs (x::f)).size=f.length+1:=by rw[Bg];rfl
   have hfl:f.length+1≤100000:=by rw[List.length_cons]at hpl;omega
   by_cases hx:x=46
   rotate_left
   ·have hr:Ff l=(0,2):=by rw[hres,TX,if_pos (.inl hx)]
    rw[hr]
    simp (maxDischargeDepth:=16) only[AX,↓AW,simprocAttr,forall_const,nuE,fr.2,CK,Al,Ae,A9,BP,BL,ne0,ad,dz,dzb,i0,f1,f1',f1g,wm,lm,iz,i37,i37',s1,s2,s3,hex,p0,px,oJ,Tk,eq_false hx]
   subst hx
   have q46:(((46:UInt8).toNat:Int) !=46)=false:=rfl
   have q46':(((46:UInt8).toNat:Int)=46)=True:=eq_true rfl
   have ad2: ∀A,B5 Tryz.prog 85 #[.string (bs (46::f)),.int .i64 1] A=some (.int .i64 ((1+Av f:Nat):Int)):=fun A=>by
    have:=A9 (bs (46::f)) 1 (by omega) (by omega) A
    rw[Dd]at this
    exact this
   have bad:(2<f.length∨Dq f=false∨f.getLast? =some 48)→Ff l=(0,2):=fun h=>by rw[hres,TX,if_pos (.inr h)]
   rcases f with _|⟨a,f⟩
   ·rw[bad (.inr (.inl rfl))]
    have g2:(((bs [46]).size:Int)<2)=True:=eq_true (by rw[psz];decide)
    simp (maxDischargeDepth:=16) only[AX,↓AW,simprocAttr,forall_const,nuE,fr.2,CK,Al,Ae,A9,BP,BL,ne0,ad,dz,dzb,i0,f1,f1',f1g,wm,lm,iz,i37,i37',s1,s2,s3,hex,p0,px,q46,q46',g2]
   rw[List.length_cons]at psz hfl
   have g2:(((bs (46::a::f)).size:Int)<2)=False:=eq_false (by rw[psz];omega)
   by_cases h2:2<f.length+1
   ·rw[bad (.inl (by rw[List.length_cons];exact h2))]
    have g3:(3<((bs (46::a::f)).size:Int))=True:=eq_true (by rw[psz];omega)
    simp (maxDischargeDepth:=16) only[AX,↓AW,simprocAttr,forall_const,nuE,fr.2,CK,Al,Ae,A9,BP,BL,ne0,ad,dz,dzb,i0,f1,f1',f1g,wm,lm,iz,i37,i37',s1,s2,s3,hex,p0,px,q46,q46',g2,g3]
   have g3:(3<((bs (46::a::f)).size:Int))=False:=eq_false (by rw[psz];omega)
   cases hal:Dq (a::f)with
   | false=>
    rw[bad (.inr (.inl hal))]
    have hnd:Av (a::f)≠f.length+1:=fun h=>by
     have:=Fi (a::f)
     rw[h,←show(a::f).length=f.length+1 from rfl,List.take_length]at this
     simp[Dq]at hal
     simp at this
     obtain⟨z1,z2⟩:=this
     obtain⟨c,z3,z4⟩:=hal z1
     rw[z2 c z3]at z4;cases z4
    have ne1:(((1+Av (a::f):Nat):Int) !=((bs (46::a::f)).size:Int))=true:=by rw[psz];simp;omega
    have ne2:(((1+Av (a::f):Nat):Int)=((bs (46::a::f)).size:Int))=False:=eq_false (by rw[psz];omega)
    simp (maxDischargeDepth:=16) only[AX,↓AW,simprocAttr,forall_const,nuE,fr.2,CK,Al,Ae,A9,BP,BL,ne0,ad,dz,dzb,i0,f1,f1',f1g,wm,lm,iz,i37,i37',s1,s2,s3,hex,p0,px,q46,q46',g2,g3,ad2,ne1,ne2]
   |true=>
   have hall: ∀c∈(a::f),BH c.toNat=true:=by simp only[Dq,Bool.and_eq_true]at hal;exact List.all_eq_true.1 hal.2
   have hnd:Av (a::f)=f.length+1:=by
    have:=Jm (a::f) (by simp only[Dq,Bool.and_eq_true]at hal;exact hal.2) [] (fun c m h=>by cases h)
    rwa [List.append_nil,List.length_cons]at this
   have ne1:(((1+Av (a::f):Nat):Int) !=((bs (46::a::f)).size:Int))=false:=by rw[psz,hnd];simp;omega
   have ne2:(((1+Av (a::f):Nat):Int)=((bs (46::a::f)).size:Int))=True:=eq_true (by rw[psz,hnd];omega)
   have wl:IntKind.i64.wrap (((bs (46::a::f)).size:Int) - 1)=((f.length+1:Nat):Int):=by rw[psz,Ak (by omega) (by omega)];omega
   have wl0:(((f.length+1:Nat):Int)<0)=False:=eq_false (by omega)
   obtain⟨y,hy⟩: ∃y,(a::f).getLast? =some y:=⟨_,List.getLast?_cons⟩
   have py:(bs (46::a::f)).data[f.length+1]? =some y:=by rw[KJ,←hy,List.getLast?_eq_getElem?];rfl
   by_cases h48:y=48
   ·rw[bad (.inr (.inr (by rw[hy,h48])))]
    simp (maxDischargeDepth:=16) only[AX,↓AW,simprocAttr,forall_const,nuE,fr.2,CK,Al,Ae,A9,BP,BL,ne0,ad,dz,dzb,i0,f1,f1',f1g,wm,lm,iz,i37,i37',s1,s2,s3,hex,p0,px,q46,q46',g2,g3,ad2,ne1,ne2,wl,wl0,py,Ta,G1,eq_true h48]
   have hfv:TX (46::a::f)=some (if(a::f).length=2 then CX (a::f)else CX (a::f)*10):=by rw[TX,if_neg (by rw[hal,hy];simp only[ne_eq,not_true_eq_false,false_or,Option.some.injEq,h48,or_false,Bool.true_eq_false,List.length_cons];exact h2)]
   obtain⟨a1,a2⟩:=u8w a (hall a (by simp))
   have pa:(bs (46::a::f)).data[1]? =some a:=by rw[KJ];rfl
   have g4:(1<((bs (46::a::f)).size:Int))=True:=eq_true (by rw[psz];omega)
   have wa:IntKind.i64.wrap ((a.toNat - 48:Nat):Int)=((a.toNat - 48:Nat):Int):=Ak (by omega) (by omega)
   have wa10:IntKind.i64.wrap (10*((a.toNat - 48:Nat):Int))=(((a.toNat - 48)*10:Nat):Int):=by rw[Ak (by omega) (by omega)];omega
   rcases f with _|⟨b2,f⟩
   ·simp only[List.length_nil,Nat.zero_add]at psz wl wl0 py
    have g5:(2<((bs [46,a]).size:Int))=False:=eq_false (by rw[psz];simp)
    have hv:TX [46,a]=some ((a.toNat - 48)*10):=by rw[hfv];simp[CX,CE]
    rw[hv]at hres
    simp only at hres
    by_cases h3:3<d
    ·rw[if_pos h3]at hres
     rw[hres]
     have k3:(3<(d:Int))=True:=eq_true (by omega)
     simp (maxDischargeDepth:=16) only[AX,↓AW,simprocAttr,forall_const,nuE,fr.2,CK,Al,Ae,A9,BP,BL,ne0,ad,dz,dzb,i0,f1,f1',f1g,wm,lm,iz,i37,i37',s1,s2,s3,hex,p0,px,q46,q46',g2,g3,ad2,ne1,ne2,wl,wl0,py,Ta,G1,eq_false h48,k3]
    rw[if_neg h3]at hres
    have k3:(3<(d:Int))=False:=eq_false (by omega)
    simp (maxDischargeDepth:=16) only[AX,↓AW,simprocAttr,forall_const,nuE,fr.2,CK,Al,Ae,A9,BP,BL,ne0,ad,dz,dzb,i0,f1,f1',f1g,wm,lm,iz,i37,i37',s1,s2,s3,hex,p0,px,q46,q46',g2,g3,ad2,ne1,ne2,wl,wl0,py,Ta,G1,eq_false h48,k3]
    clear nuE fr
    obtain⟨e,acc,l2,he0,ha0,hle,hd2,hac,hval⟩: ∃(e acc:Nat) (l2:List UInt8),e=0∧acc=0∧e≤w.length∧l2=w.drop e∧acc<10 ^ e∧CX w=CE l2 acc:=⟨0,0,_,rfl,rfl,by omega,rfl,by decide,rfl⟩
    rw[show(7,some (Value.int .i64 0))=(7,some (Value.int .i64 (e:Int))) by rw[he0];rfl,show(6,some (Value.int .i64 0))=(6,some (Value.int .i64 (acc:Int))) by rw[ha0];rfl]
    clear he0 ha0
    have hbd: ∀e:Nat,e≤3→10 ^ e≤1000:=fun e h=>Nat.pow_le_pow_right (n:=10) (by decide) h
    induction l2 generalizing e acc with
    | nil=>
     obtain⟨hn1,hn2⟩:=drop_nil hd2 hle
     have le:((e:Int)<(d:Int))=False:=eq_false (by omega)
     have hb1:=hbd e (by omega)
     rw[show CX w=acc from hval]at hres
     have m100:IntKind.i64.wrap ((acc:Int)*100)=((acc*100:Nat):Int):=by rw[Ak (by omega) (by omega)];omega
     have sa:IntKind.i64.wrap (((acc*100:Nat):Int)+(((a.toNat - 48)*10:Nat):Int))=((acc*100+(a.toNat - 48)*10:Nat):Int):=by rw[Ak (by omega) (by omega)];omega
     refine Ah.intro (by kernel_rfl) ?_
     intro ν fr;have nuE:=fr.nu
     by_cases hbig:10000<acc*100+(a.toNat - 48)*10
     ·rw[if_pos hbig]at hres
      have kb:(10000<((acc*100+(a.toNat - 48)*10:Nat):Int))=True:=eq_true (by omega)
      rw[hres]
      simp (maxDischargeDepth:=16) only[AX,↓AW,simprocAttr,forall_const,nuE,fr.2,CK,Al,Ae,A9,BP,BL,le,m100,g4,g5,pa,a1,wa,wa10,sa,kb]
     rw[if_neg hbig]at hres
     have kb:(10000<((acc*100+(a.toNat - 48)*10:Nat):Int))=False:=eq_false (by omega)
     rw[hres]
     simp (maxDischargeDepth:=16) only[AX,↓AW,simprocAttr,forall_const,nuE,fr.2,CK,Al,Ae,A9,BP,BL,le,m100,g4,g5,pa,a1,wa,wa10,sa,kb]
    |cons c l2 ihl=>
     obtain⟨ha,hlt,hd',htk⟩:=Dj hd2
     have le:((e:Int)<(d:Int))=True:=eq_true (by omega)
     have le0:((e:Int)<0)=False:=eq_false (by omega)
     have we:IntKind.i64.wrap ((e:Int)+1)=((e+1:Nat):Int):=by rw[Ak (by omega) (by omega)];omega
     have hcd:BH c.toNat=true:=List.all_eq_true.1 hwa c (List.mem_of_getElem? ha)
     obtain⟨c1,c2⟩:=u8w c hcd
     have hb1:=hbd e (by omega)
     have hce:=hwat e c ha
     have wc:IntKind.i64.wrap ((c.toNat - 48:Nat):Int)=((c.toNat - 48:Nat):Int):=Ak (by omega) (by omega)
     have m10:IntKind.i64.wrap ((acc:Int)*10)=((10*acc:Nat):Int):=by rw[Ak (by omega) (by omega)];omega
     have ms:IntKind.i64.wrap (((10*acc:Nat):Int)+((c.toNat - 48:Nat):Int))=((10*acc+(c.toNat - 48):Nat):Int):=by rw[Ak (by omega) (by omega)];omega
     refine Ah.intro (by kernel_rfl) ?_
     intro ν fr;have nuE:=fr.nu
     simp (maxDischargeDepth:=16) only[AX,↓AW,simprocAttr,forall_const,nuE,fr.2,CK,Al,Ae,A9,BP,BL,le,le0,hce,c1,wc,m10,ms,we]
     exact Ah.weak (ihl (e+1) (10*acc+(c.toNat - 48)) (by omega) hd' (by rw[Nat.pow_succ];omega) (by rw[hval,CE])) (by simp only[BW,Ab,Nat.reduceEqDiff,↓reduceIte,reduceCtorEq,Nat.reduceAdd,and_self,and_true]) (SubA.refl _)
   have hf0:f=[]:=by cases f with|nil=>rfl|cons _ _=>simp only[List.length_cons]at h2;omega
   subst hf0
   simp only[List.length_nil,List.length_cons,Nat.zero_add,Nat.reduceAdd]at psz wl wl0 py
   have g5:(2<((bs [46,a,b2]).size:Int))=True:=eq_true (by rw[psz];simp)
   obtain⟨b1,b3⟩:=u8w b2 (hall b2 (by simp))
   have pb:(bs [46,a,b2]).data[2]? =some b2:=by rw[KJ];rfl
   have wb:IntKind.i64.wrap ((b2.toNat - 48:Nat):Int)=((b2.toNat - 48:Nat):Int):=Ak (by omega) (by omega)
   have hv:TX [46,a,b2]=some ((a.toNat - 48)*10+(b2.toNat - 48)):=by rw[hfv];simp[CX,CE];omega
   rw[hv]at hres
   simp only at hres
   by_cases h3:3<d
   ·rw[if_pos h3]at hres
    rw[hres]
    have k3:(3<(d:Int))=True:=eq_true (by omega)
    simp (maxDischargeDepth:=16) only[AX,↓AW,simprocAttr,forall_const,nuE,fr.2,CK,Al,Ae,A9,BP,BL,ne0,ad,dz,dzb,i0,f1,f1',f1g,wm,lm,iz,i37,i37',s1,s2,s3,hex,p0,px,q46,q46',g2,g3,ad2,ne1,ne2,wl,wl0,py,Ta,G1,eq_false h48,k3]
   rw[if_neg h3]at hres
   have k3:(3<(d:Int))=False:=eq_false (by omega)
   simp (maxDischargeDepth:=16) only[AX,↓AW,simprocAttr,forall_const,nuE,fr.2,CK,Al,Ae,A9,BP,BL,ne0,ad,dz,dzb,i0,f1,f1',f1g,wm,lm,iz,i37,i37',s1,s2,s3,hex,p0,px,q46,q46',g2,g3,ad2,ne1,ne2,wl,wl0,py,Ta,G1,eq_false h48,k3]
   clear nuE fr
   obtain⟨e,acc,l2,he0,ha0,hle,hd2,hac,hval⟩: ∃(e acc:Nat) (l2:List UInt8),e=0∧acc=0∧e≤w.length∧l2=w.drop e∧acc<10 ^ e∧CX w=CE l2 acc:=⟨0,0,_,rfl,rfl,by omega,rfl,by decide,rfl⟩
   rw[show(7,some (Value.int .i64 0))=(7,some (Value.int .i64 (e:Int))) by rw[he0];rfl,show(6,some (Value.int .i64 0))=(6,some (Value.int .i64 (acc:Int))) by rw[ha0];rfl]
   clear he0 ha0
   have hbd: ∀e:Nat,e≤3→10 ^ e≤1000:=fun e h=>Nat.pow_le_pow_right (n:=10) (by decide) h
   induction l2 generalizing e acc with
   | nil=>
    obtain⟨hn1,hn2⟩:=drop_nil hd2 hle
    have le:((e:Int)<(d:Int))=False:=eq_false (by omega)
    have hb1:=hbd e (by omega)
    rw[show CX w=acc from hval]at hres
    have m100:IntKind.i64.wrap ((acc:Int)*100)=((acc*100:Nat):Int):=by rw[Ak (by omega) (by omega)];omega
    have sa:IntKind.i64.wrap (((acc*100:Nat):Int)+(((a.toNat - 48)*10:Nat):Int))=((acc*100+(a.toNat - 48)*10:Nat):Int):=by rw[Ak (by omega) (by omega)];omega
    have sb:IntKind.i64.wrap (((acc*100+(a.toNat - 48)*10:Nat):Int)+((b2.toNat - 48:Nat):Int))=((acc*100+((a.toNat - 48)*10+(b2.toNat - 48)):Nat):Int):=by rw[Ak (by omega) (by omega)];omega
    refine Ah.intro (by kernel_rfl) ?_
    intro ν fr;have nuE:=fr.nu
    by_cases hbig:10000<acc*100+((a.toNat - 48)*10+(b2.toNat - 48))
    ·rw[if_pos hbig]at hres
     have kb:(10000<((acc*100+((a.toNat - 48)*10+(b2.toNat - 48)):Nat):Int))=True:=eq_true (by omega)
     rw[hres]
     simp (maxDischargeDepth:=16) only[AX,↓AW,simprocAttr,forall_const,nuE,fr.2,CK,Al,Ae,A9,BP,BL,le,m100,g4,g5,pa,a1,wa,wa10,sa,pb,b1,wb,sb,kb]
    rw[if_neg hbig]at hres
    have kb:(10000<((acc*100+((a.toNat - 48)*10+(b2.toNat - 48)):Nat):Int))=False:=eq_false (by omega)
    rw[hres]
    simp (maxDischargeDepth:=16) only[AX,↓AW,simprocAttr,forall_const,nuE,fr.2,CK,Al,Ae,A9,BP,BL,le,m100,g4,g5,pa,a1,wa,wa10,sa,pb,b1,wb,sb,kb]
   |cons c l2 ihl=>
    obtain⟨ha,hlt,hd',htk⟩:=Dj hd2
    have le:((e:Int)<(d:Int))=True:=eq_true (by omega)
    have le0:((e:Int)<0)=False:=eq_false (by omega)
    have we:IntKind.i64.wrap ((e:Int)+1)=((e+1:Nat):Int):=by rw[Ak (by omega) (by omega)];omega
    have hcd:BH c.toNat=true:=List.all_eq_true.1 hwa c (List.mem_of_getElem? ha)
    obtain⟨c1,c2⟩:=u8w c hcd
    have hb1:=hbd e (by omega)
    have hce:=hwat e c ha
    have wc:IntKind.i64.wrap ((c.toNat - 48:Nat):Int)=((c.toNat - 48:Nat):Int):=Ak (by omega) (by omega)
    have m10:IntKind.i64.wrap ((acc:Int)*10)=((10*acc:Nat):Int):=by rw[Ak (by omega) (by omega)];omega
    have ms:IntKind.i64.wrap (((10*acc:Nat):Int)+((c.toNat - 48:Nat):Int))=((10*acc+(c.toNat - 48):Nat):Int):=by rw[Ak (by omega) (by omega)];omega
    refine Ah.intro (by kernel_rfl) ?_
    intro ν fr;have nuE:=fr.nu
    simp (maxDischargeDepth:=16) only[AX,↓AW,simprocAttr,forall_const,nuE,fr.2,CK,Al,Ae,A9,BP,BL,le,le0,hce,c1,wc,m10,ms,we]
    exact Ah.weak (ihl (e+1) (10*acc+(c.toNat - 48)) (by omega) hd' (by rw[Nat.pow_succ];omega) (by rw[hval,CE])) (by simp only[BW,Ab,Nat.reduceEqDiff,↓reduceIte,reduceCtorEq,Nat.reduceAdd,and_self,and_true]) (SubA.refl _)
 ·cases p with
  | nil=>
   have p0:((bs ([]:List UInt8)).toList=[])=True:=eq_true (Dd _)
   have g4:(1<((bs ([]:List UInt8)).size:Int))=False:=eq_false (by rw[Bg];simp)
   have g5:(2<((bs ([]:List UInt8)).size:Int))=False:=eq_false (by rw[Bg];simp)
   have hv:TX []=some (0):=rfl
   rw[hv]at hres
   simp only at hres
   by_cases h3:3<d
   ·rw[if_pos h3]at hres
    rw[hres]
    have k3:(3<(d:Int))=True:=eq_true (by omega)
    simp (maxDischargeDepth:=16) only[AX,↓AW,simprocAttr,forall_const,nuE,fr.2,CK,Al,Ae,A9,BP,BL,ne0,ad,dz,dzb,i0,f1,f1',wm,lm,iz,i37,i37',s1,s2,s3,hex,p0,k3]
   rw[if_neg h3]at hres
   have k3:(3<(d:Int))=False:=eq_false (by omega)
   simp (maxDischargeDepth:=16) only[AX,↓AW,simprocAttr,forall_const,nuE,fr.2,CK,Al,Ae,A9,BP,BL,ne0,ad,dz,dzb,i0,f1,f1',wm,lm,iz,i37,i37',s1,s2,s3,hex,p0,k3]
   clear nuE fr
   obtain⟨e,acc,l2,he0,ha0,hle,hd2,hac,hval⟩: ∃(e acc:Nat) (l2:List UInt8),e=0∧acc=0∧e≤w.length∧l2=w.drop e∧acc<10 ^ e∧CX w=CE l2 acc:=⟨0,0,_,rfl,rfl,by omega,rfl,by decide,rfl⟩
   rw[show(7,some (Value.int .i64 0))=(7,some (Value.int .i64 (e:Int))) by rw[he0];rfl,show(6,some (Value.int .i64 0))=(6,some (Value.int .i64 (acc:Int))) by rw[ha0];rfl]
   clear he0 ha0
   have hbd: ∀e:Nat,e≤3→10 ^ e≤1000:=fun e h=>Nat.pow_le_pow_right (n:=10) (by decide) h
   induction l2 generalizing e acc with
   | nil=>
    obtain⟨hn1,hn2⟩:=drop_nil hd2 hle
    have le:((e:Int)<(d:Int))=False:=eq_false (by omega)
    have hb1:=hbd e (by omega)
    rw[show CX w=acc from hval]at hres
    have m100:IntKind.i64.wrap ((acc:Int)*100)=((acc*100:Nat):Int):=by rw[Ak (by omega) (by omega)];omega
    rw[Nat.add_zero]at hres
    refine Ah.intro (by kernel_rfl) ?_
    intro ν fr;have nuE:=fr.nu
    by_cases hbig:10000<acc*100
    ·rw[if_pos hbig]at hres
     have kb:(10000<((acc*100:Nat):Int))=True:=eq_true (by omega)
     rw[hres]
     simp (maxDischargeDepth:=16) only[AX,↓AW,simprocAttr,forall_const,nuE,fr.2,CK,Al,Ae,A9,BP,BL,le,m100,g4,g5,kb]
    rw[if_neg hbig]at hres
    have kb:(10000<((acc*100:Nat):Int))=False:=eq_false (by omega)
    rw[hres]
    simp (maxDischargeDepth:=16) only[AX,↓AW,simprocAttr,forall_const,nuE,fr.2,CK,Al,Ae,A9,BP,BL,le,m100,g4,g5,kb]
   |cons c l2 ihl=>
    obtain⟨ha,hlt,hd',htk⟩:=Dj hd2
    have le:((e:Int)<(d:Int))=True:=eq_true (by omega)
    have le0:((e:Int)<0)=False:=eq_false (by omega)
    have we:IntKind.i64.wrap ((e:Int)+1)=((e+1:Nat):Int):=by rw[Ak (by omega) (by omega)];omega
    have hcd:BH c.toNat=true:=List.all_eq_true.1 hwa c (List.mem_of_getElem? ha)
    obtain⟨c1,c2⟩:=u8w c hcd
    have hb1:=hbd e (by omega)
    have hce:=hwat e c ha
    have wc:IntKind.i64.wrap ((c.toNat - 48:Nat):Int)=((c.toNat - 48:Nat):Int):=Ak (by omega) (by omega)
    have m10:IntKind.i64.wrap ((acc:Int)*10)=((10*acc:Nat):Int):=by rw[Ak (by omega) (by omega)];omega
    have ms:IntKind.i64.wrap (((10*acc:Nat):Int)+((c.toNat - 48:Nat):Int))=((10*acc+(c.toNat - 48):Nat):Int):=by rw[Ak (by omega) (by omega)];omega
    refine Ah.intro (by kernel_rfl) ?_
    intro ν fr;have nuE:=fr.nu
    simp (maxDischargeDepth:=16) only[AX,↓AW,simprocAttr,forall_const,nuE,fr.2,CK,Al,Ae,A9,BP,BL,le,le0,hce,c1,wc,m10,ms,we]
    exact Ah.weak (ihl (e+1) (10*acc+(c.toNat - 48)) (by omega) hd' (by rw[Nat.pow_succ];omega) (by rw[hval,CE])) (by simp only[BW,Ab,Nat.reduceEqDiff,↓reduceIte,reduceCtorEq,Nat.reduceAdd,and_self,and_true]) (SubA.refl _)
  | cons x f=>
   have p0:((bs (x::f)).toList=[])=False:=eq_false (by rw[Dd];simp)
   have px:(bs (x::f)).data[0]? =some x:=by rw[KJ];rfl
   have psz:(bs (x::f)).size=f.length+1:=by rw[Bg];rfl
   have hfl:f.length+1≤100000:=by rw[List.length_cons]at hpl;omega
   by_cases hx:x=46
   rotate_left
   ·have hr:Ff l=(0,2):=by rw[hres,TX,if_pos (.inl hx)]
    rw[hr]
    simp (maxDischargeDepth:=16) only[AX,↓AW,simprocAttr,forall_const,nuE,fr.2,CK,Al,Ae,A9,BP,BL,ne0,ad,dz,dzb,i0,f1,f1',wm,lm,iz,i37,i37',s1,s2,s3,hex,p0,px,oJ,Tk,eq_false hx]
   subst hx
   have q46:(((46:UInt8).toNat:Int) !=46)=false:=rfl
   have q46':(((46:UInt8).toNat:Int)=46)=True:=eq_true rfl
   have ad2: ∀A,B5 Tryz.prog 85 #[.string (bs (46::f)),.int .i64 1] A=some (.int .i64 ((1+Av f:Nat):Int)):=fun A=>by
    have:=A9 (bs (46::f)) 1 (by omega) (by omega) A
    rw[Dd]at this
    exact this
   have bad:(2<f.length∨Dq f=false∨f.getLast? =some 48)→Ff l=(0,2):=fun h=>by rw[hres,TX,if_pos (.inr h)]
   rcases f with _|⟨a,f⟩
   ·rw[bad (.inr (.inl rfl))]
    have g2:(((bs [46]).size:Int)<2)=True:=eq_true (by rw[psz];decide)
    simp (maxDischargeDepth:=16) only[AX,↓AW,simprocAttr,forall_const,nuE,fr.2,CK,Al,Ae,A9,BP,BL,ne0,ad,dz,dzb,i0,f1,f1',wm,lm,iz,i37,i37',s1,s2,s3,hex,p0,px,q46,q46',g2]
   rw[List.length_cons]at psz hfl
   have g2:(((bs (46::a::f)).size:Int)<2)=False:=eq_false (by rw[psz];omega)
   by_cases h2:2<f.length+1
   ·rw[bad (.inl (by rw[List.length_cons];exact h2))]
    have g3:(3<((bs (46::a::f)).size:Int))=True:=eq_true (by rw[psz];omega)
    simp (maxDischargeDepth:=16) only[AX,↓AW,simprocAttr,forall_const,nuE,fr.2,CK,Al,Ae,A9,BP,BL,ne0,ad,dz,dzb,i0,f1,f1',wm,lm,iz,i37,i37',s1,s2,s3,hex,p0,px,q46,q46',g2,g3]
   have g3:(3<((bs (46::a::f)).size:Int))=False:=eq_false (by rw[psz];omega)
   cases hal:Dq (a::f)with
   | false=>
    rw[bad (.inr (.inl hal))]
    have hnd:Av (a::f)≠f.length+1:=fun h=>by
     have:=Fi (a::f)
     rw[h,←show(a::f).length=f.length+1 from rfl,List.take_length]at this
     simp[Dq]at hal
     simp at this
     obtain⟨z1,z2⟩:=this
     obtain⟨c,z3,z4⟩:=hal z1
     rw[z2 c z3]at z4;cases z4
    have ne1:(((1+Av (a::f):Nat):Int) !=((bs (46::a::f)).size:Int))=true:=by rw[psz];simp;omega
    have ne2:(((1+Av (a::f):Nat):Int)=((bs (46::a::f)).size:Int))=False:=eq_false (by rw[psz];omega)
    simp (maxDischargeDepth:=16) only[AX,↓AW,simprocAttr,forall_const,nuE,fr.2,CK,Al,Ae,A9,BP,BL,ne0,ad,dz,dzb,i0,f1,f1',wm,lm,iz,i37,i37',s1,s2,s3,hex,p0,px,q46,q46',g2,g3,ad2,ne1,ne2]
   |true=>
   have hall: ∀c∈(a::f),BH c.toNat=true:=by simp only[Dq,Bool.and_eq_true]at hal;exact List.all_eq_true.1 hal.2
   have hnd:Av (a::f)=f.length+1:=by
    have:=Jm (a::f) (by simp only[Dq,Bool.and_eq_true]at hal;exact hal.2) [] (fun c m h=>by cases h)
    rwa [List.append_nil,List.length_cons]at this
   have ne1:(((1+Av (a::f):Nat):Int) !=((bs (46::a::f)).size:Int))=false:=by rw[psz,hnd];simp;omega
   have ne2:(((1+Av (a::f):Nat):Int)=((bs (46::a::f)).size:Int))=True:=eq_true (by rw[psz,hnd];omega)
   have wl:IntKind.i64.wrap (((bs (46::a::f)).size:Int) - 1)=((f.length+1:Nat):Int):=by rw[psz,Ak (by omega) (by omega)];omega
   have wl0:(((f.length+1:Nat):Int)<0)=False:=eq_false (by omega)
   obtain⟨y,hy⟩: ∃y,(a::f).getLast? =some y:=⟨_,List.getLast?_cons⟩
   have py:(bs (46::a::f)).data[f.length+1]? =some y:=by rw[KJ,←hy,List.getLast?_eq_getElem?];rfl
   by_cases h48:y=48
   ·rw[bad (.inr (.inr (by rw[hy,h48])))]
    simp (maxDischargeDepth:=16) only[AX,↓AW,simprocAttr,forall_const,nuE,fr.2,CK,Al,Ae,A9,BP,BL,ne0,ad,dz,dzb,i0,f1,f1',wm,lm,iz,i37,i37',s1,s2,s3,hex,p0,px,q46,q46',g2,g3,ad2,ne1,ne2,wl,wl0,py,Ta,G1,eq_true h48]
   have hfv:TX (46::a::f)=some (if(a::f).length=2 then CX (a::f)else CX (a::f)*10):=by rw[TX,if_neg (by rw[hal,hy];simp only[ne_eq,not_true_eq_false,false_or,Option.some.injEq,h48,or_false,Bool.true_eq_false,List.length_cons];exact h2)]
   obtain⟨a1,a2⟩:=u8w a (hall a (by simp))
   have pa:(bs (46::a::f)).data[1]? =some a:=by rw[KJ];rfl
   have g4:(1<((bs (46::a::f)).size:Int))=True:=eq_true (by rw[psz];omega)
   have wa:IntKind.i64.wrap ((a.toNat - 48:Nat):Int)=((a.toNat - 48:Nat):Int):=Ak (by omega) (by omega)
   have wa10:IntKind.i64.wrap (10*((a.toNat - 48:Nat):Int))=(((a.toNat - 48)*10:Nat):Int):=by rw[Ak (by omega) (by omega)];omega
   rcases f with _|⟨b2,f⟩
   ·simp only[List.length_nil,Nat.zero_add]at psz wl wl0 py
    have g5:(2<((bs [46,a]).size:Int))=False:=eq_false (by rw[psz];simp)
    have hv:TX [46,a]=some ((a.toNat - 48)*10):=by rw[hfv];simp[CX,CE]
    rw[hv]at hres
    simp only at hres
    by_cases h3:3<d
    ·rw[if_pos h3]at hres
     rw[hres]
     have k3:(3<(d:Int))=True:=eq_true (by omega)
     simp (maxDischargeDepth:=16) only[AX,↓AW,simprocAttr,forall_const,nuE,fr.2,CK,Al,Ae,A9,BP,BL,ne0,ad,dz,dzb,i0,f1,f1',wm,lm,iz,i37,i37',s1,s2,s3,hex,p0,px,q46,q46',g2,g3,ad2,ne1,ne2,wl,wl0,py,Ta,G1,eq_false h48,k3]
    rw[if_neg h3]at hres
    have k3:(3<(d:Int))=False:=eq_false (by omega)
    simp (maxDischargeDepth:=16) only[AX,↓AW,simprocAttr,forall_const,nuE,fr.2,CK,Al,Ae,A9,BP,BL,ne0,ad,dz,dzb,i0,f1,f1',wm,lm,iz,i37,i37',s1,s2,s3,hex,p0,px,q46,q46',g2,g3,ad2,ne1,ne2,wl,wl0,py,Ta,G1,eq_false h48,k3]
    clear nuE fr
    obtain⟨e,acc,l2,he0,ha0,hle,hd2,hac,hval⟩: ∃(e acc:Nat) (l2:List UInt8),e=0∧acc=0∧e≤w.length∧l2=w.drop e∧acc<10 ^ e∧CX w=CE l2 acc:=⟨0,0,_,rfl,rfl,by omega,rfl,by decide,rfl⟩
    rw[show(7,some (Value.int .i64 0))=(7,some (Value.int .i64 (e:Int))) by rw[he0];rfl,show(6,some (Value.int .i64 0))=(6,some (Value.int .i64 (acc:Int))) by rw[ha0];rfl]
    clear he0 ha0
    have hbd: ∀e:Nat,e≤3→10 ^ e≤1000:=fun e h=>Nat.pow_le_pow_right (n:=10) (by decide) h
    induction l2 generalizing e acc with
    | nil=>
     obtain⟨hn1,hn2⟩:=drop_nil hd2 hle
     have le:((e:Int)<(d:Int))=False:=eq_false (by omega)
     have hb1:=hbd e (by omega)
     rw[show CX w=acc from hval]at hres
     have m100:IntKind.i64.wrap ((acc:Int)*100)=((acc*100:Nat):Int):=by rw[Ak (by omega) (by omega)];omega
     have sa:IntKind.i64.wrap (((acc*100:Nat):Int)+(((a.toNat - 48)*10:Nat):Int))=((acc*100+(a.toNat - 48)*10:Nat):Int):=by rw[Ak (by omega) (by omega)];omega
     refine Ah.intro (by kernel_rfl) ?_
     intro ν fr;have nuE:=fr.nu
     by_cases hbig:10000<acc*100+(a.toNat - 48)*10
     ·rw[if_pos hbig]at hres
      have kb:(10000<((acc*100+(a.toNat - 48)*10:Nat):Int))=True:=eq_true (by omega)
      rw[hres]
      simp (maxDischargeDepth:=16) only[AX,↓AW,simprocAttr,forall_const,nuE,fr.2,CK,Al,Ae,A9,BP,BL,le,m100,g4,g5,pa,a1,wa,wa10,sa,kb]
     rw[if_neg hbig]at hres
     have kb:(10000<((acc*100+(a.toNat - 48)*10:Nat):Int))=False:=eq_false (by omega)
     rw[hres]
     simp (maxDischargeDepth:=16) only[AX,↓AW,simprocAttr,forall_const,nuE,fr.2,CK,Al,Ae,A9,BP,BL,le,m100,g4,g5,pa,a1,wa,wa10,sa,kb]
    |cons c l2 ihl=>
     obtain⟨ha,hlt,hd',htk⟩:=Dj hd2
     have le:((e:Int)<(d:Int))=True:=eq_true (by omega)
     have le0:((e:Int)<0)=False:=eq_false (by omega)
     have we:IntKind.i64.wrap ((e:Int)+1)=((e+1:Nat):Int):=by rw[Ak (by omega) (by omega)];omega
     have hcd:BH c.toNat=true:=List.all_eq_true.1 hwa c (List.mem_of_getElem? ha)
     obtain⟨c1,c2⟩:=u8w c hcd
     have hb1:=hbd e (by omega)
     have hce:=hwat e c ha
     have wc:IntKind.i64.wrap ((c.toNat - 48:Nat):Int)=((c.toNat - 48:Nat):Int):=Ak (by omega) (by omega)
     have m10:IntKind.i64.wrap ((acc:Int)*10)=((10*acc:Nat):Int):=by rw[Ak (by omega) (by omega)];omega
     have ms:IntKind.i64.wrap (((10*acc:Nat):Int)+((c.toNat - 48:Nat):Int))=((10*acc+(c.toNat - 48):Nat):Int):=by rw[Ak (by omega) (by omega)];omega
     refine Ah.intro (by kernel_rfl) ?_
     intro ν fr;have nuE:=fr.nu
     simp (maxDischargeDepth:=16) only[AX,↓AW,simprocAttr,forall_const,nuE,fr.2,CK,Al,Ae,A9,BP,BL,le,le0,hce,c1,wc,m10,ms,we]
     exact Ah.weak (ihl (e+1) (10*acc+(c.toNat - 48)) (by omega) hd' (by rw[Nat.pow_succ];omega) (by rw[hval,CE])) (by simp only[BW,Ab,Nat.reduceEqDiff,↓reduceIte,reduceCtorEq,Nat.reduceAdd,and_self,and_true]) (SubA.refl _)
   have hf0:f=[]:=by cases f with|nil=>rfl|cons _ _=>simp only[List.length_cons]at h2;omega
   subst hf0
   simp only[List.length_nil,List.length_cons,Nat.zero_add,Nat.reduceAdd]at psz wl wl0 py
   have g5:(2<((bs [46,a,b2]).size:Int))=True:=eq_true (by rw[psz];simp)
   obtain⟨b1,b3⟩:=u8w b2 (hall b2 (by simp))
   have pb:(bs [46,a,b2]).data[2]? =some b2:=by rw[KJ];rfl
   have wb:IntKind.i64.wrap ((b2.toNat - 48:Nat):Int)=((b2.toNat - 48:Nat):Int):=Ak (by omega) (by omega)
   have hv:TX [46,a,b2]=some ((a.toNat - 48)*10+(b2.toNat - 48)):=by rw[hfv];simp[CX,CE];omega
   rw[hv]at hres
   simp only at hres
   by_cases h3:3<d
   ·rw[if_pos h3]at hres
    rw[hres]
    have k3:(3<(d:Int))=True:=eq_true (by omega)
    simp (maxDischargeDepth:=16) only[AX,↓AW,simprocAttr,forall_const,nuE,fr.2,CK,Al,Ae,A9,BP,BL,ne0,ad,dz,dzb,i0,f1,f1',wm,lm,iz,i37,i37',s1,s2,s3,hex,p0,px,q46,q46',g2,g3,ad2,ne1,ne2,wl,wl0,py,Ta,G1,eq_false h48,k3]
   rw[if_neg h3]at hres
   have k3:(3<(d:Int))=False:=eq_false (by omega)
   simp (maxDischargeDepth:=16) only[AX,↓AW,simprocAttr,forall_const,nuE,fr.2,CK,Al,Ae,A9,BP,BL,ne0,ad,dz,dzb,i0,f1,f1',wm,lm,iz,i37,i37',s1,s2,s3,hex,p0,px,q46,q46',g2,g3,ad2,ne1,ne2,wl,wl0,py,Ta,G1,eq_false h48,k3]
   clear nuE fr
   obtain⟨e,acc,l2,he0,ha0,hle,hd2,hac,hval⟩: ∃(e acc:Nat) (l2:List UInt8),e=0∧acc=0∧e≤w.length∧l2=w.drop e∧acc<10 ^ e∧CX w=CE l2 acc:=⟨0,0,_,rfl,rfl,by omega,rfl,by decide,rfl⟩
   rw[show(7,some (Value.int .i64 0))=(7,some (Value.int .i64 (e:Int))) by rw[he0];rfl,show(6,some (Value.int .i64 0))=(6,some (Value.int .i64 (acc:Int))) by rw[ha0];rfl]
   clear he0 ha0
   have hbd: ∀e:Nat,e≤3→10 ^ e≤1000:=fun e h=>Nat.pow_le_pow_right (n:=10) (by decide) h
   induction l2 generalizing e acc with
   | nil=>
    obtain⟨hn1,hn2⟩:=drop_nil hd2 hle
    have le:((e:Int)<(d:Int))=False:=eq_false (by omega)
    have hb1:=hbd e (by omega)
    rw[show CX w=acc from hval]at hres
    have m100:IntKind.i64.wrap ((acc:Int)*100)=((acc*100:Nat):Int):=by rw[Ak (by omega) (by omega)];omega
    have sa:IntKind.i64.wrap (((acc*100:Nat):Int)+(((a.toNat - 48)*10:Nat):Int))=((acc*100+(a.toNat - 48)*10:Nat):Int):=by rw[Ak (by omega) (by omega)];omega
    have sb:IntKind.i64.wrap (((acc*100+(a.toNat - 48)*10:Nat):Int)+((b2.toNat - 48:Nat):Int))=((acc*100+((a.toNat - 48)*10+(b2.toNat - 48)):Nat):Int):=by rw[Ak (by omega) (by omega)];omega
    refine Ah.intro (by kernel_rfl) ?_
    intro ν fr;have nuE:=fr.nu
    by_cases hbig:10000<acc*100+((a.toNat - 48)*10+(b2.toNat - 48))
    ·rw[if_pos hbig]at hres
     have kb:(10000<((acc*100+((a.toNat - 48)*10+(b2.toNat - 48)):Nat):Int))=True:=eq_true (by omega)
     rw[hres]
     simp (maxDischargeDepth:=16) only[AX,↓AW,simprocAttr,forall_const,nuE,fr.2,CK,Al,Ae,A9,BP,BL,le,m100,g4,g5,pa,a1,wa,wa10,sa,pb,b1,wb,sb,kb]
    rw[if_neg hbig]at hres
    have kb:(10000<((acc*100+((a.toNat - 48)*10+(b2.toNat - 48)):Nat):Int))=False:=eq_false (by omega)
    rw[hres]
    simp (maxDischargeDepth:=16) only[AX,↓AW,simprocAttr,forall_const,nuE,fr.2,CK,Al,Ae,A9,BP,BL,le,m100,g4,g5,pa,a1,wa,wa10,sa,pb,b1,wb,sb,kb]
   |cons c l2 ihl=>
    obtain⟨ha,hlt,hd',htk⟩:=Dj hd2
    have le:((e:Int)<(d:Int))=True:=eq_true (by omega)
    have le0:((e:Int)<0)=False:=eq_false (by omega)
    have we:IntKind.i64.wrap ((e:Int)+1)=((e+1:Nat):Int):=by rw[Ak (by omega) (by omega)];omega
    have hcd:BH c.toNat=true:=List.all_eq_true.1 hwa c (List.mem_of_getElem? ha)
    obtain⟨c1,c2⟩:=u8w c hcd
    have hb1:=hbd e (by omega)
    have hce:=hwat e c ha
    have wc:IntKind.i64.wrap ((c.toNat - 48:Nat):Int)=((c.toNat - 48:Nat):Int):=Ak (by omega) (by omega)
    have m10:IntKind.i64.wrap ((acc:Int)*10)=((10*acc:Nat):Int):=by rw[Ak (by omega) (by omega)];omega
    have ms:IntKind.i64.wrap (((10*acc:Nat):Int)+((c.toNat - 48:Nat):Int))=((10*acc+(c.toNat - 48):Nat):Int):=by rw[Ak (by omega) (by omega)];omega
    refine Ah.intro (by kernel_rfl) ?_
    intro ν fr;have nuE:=fr.nu
    simp (maxDischargeDepth:=16) only[AX,↓AW,simprocAttr,forall_const,nuE,fr.2,CK,Al,Ae,A9,BP,BL,le,le0,hce,c1,wc,m10,ms,we]
    exact Ah.weak (ihl (e+1) (10*acc+(c.toNat - 48)) (by omega) hd' (by rw[Nat.pow_succ];omega) (by rw[hval,CE])) (by simp only[BW,Ab,Nat.reduceEqDiff,↓reduceIte,reduceCtorEq,Nat.reduceAdd,and_self,and_true]) (SubA.refl _)
theorem LL(s:ByteArray)(hs:s.size≤100000)(A_:AH):B5 Tryz.prog 66 #[.string s] A_=some (.tuple #[.int .i64 (Ff s.toList).1,.int .i64 (Ff s.toList).2]):=Bk (CN (by kernel_rfl) (mS s hs))
end Go.Proofs.YtfphceknmgadgaaGreatDoor
