/-
Builders; what is writable.
Conditions: none.
-/
import Derived.Test.YtfphceknmgadgaaGreatDoorVmAB
import Derived.Test.YtfphceknmgadgaaGreatDoorQa
import Derived.Test.YtfphceknmgadgaaGreatDoorVmAV
import Derived.Test.YtfphceknmgadgaaGreatDoorTy
import Derived.Test.YtfphceknmgadgaaGreatDoorShelf
import Derived.Test.YtfphceknmgadgaaGreatDoorQg
import Derived.Test.YtfphceknmgadgaaGreatDoorQi
set_option linter.unusedSimpArgs false
set_option linter.unusedVariables false
namespace Go.Proofs.YtfphceknmgadgaaGreatDoor
open Go.Vm
set_option maxHeartbeats 1000000
set_option maxRecDepth 20000
theorem Da:type_of% (An @BR (An @Be (An @Bd (An @BF (An @BQ (An @Bf (An @CG (An @BX (An @CX (An @Cn (An @CZ (An @Cp (An @DB (An @Cq (An @CW (An @CD (An @CC (An @Co (An @Bw (An @CE (An @CY (An @CF (An @CH (An @AW (An @AP (An @Av (An @Aw (An @Am (An @BN (An @Ar (An @A7 (An @A8 (An @BA (An @BB (An @BD (An @BH (An @BK @Cy))))))))))))))))))))))))))))))))))))):=⟨@BR,@Be,@Bd,@BF,@BQ,@Bf,@CG,@BX,@CX,@Cn,@CZ,@Cp,@DB,@Cq,@CW,@CD,@CC,@Co,@Bw,@CE,@CY,@CF,@CH,@AW,@AP,@Av,@Aw,@Am,@BN,@Ar,@A7,@A8,@BA,@BB,@BD,@BH,@BK,@Cy⟩
def FX(E:AH)(b:Nat)(l:List UInt8):Prop:= ∃p v B,E=(b,.cells #[p,v] 67)::B∧(p=.pointer none∨p=.pointer (some ⟨b,0,none⟩))∧(l=[]→v=.slice none 0 0)∧GB 5 1 v B l.length (XJ l)∧Vm.AA B b=none
theorem FX.new(b:Nat):FX [(b,.cells #[.pointer none,.slice none 0 0] 67)] b []:=⟨_,_,[],rfl,.inl rfl,fun _=>rfl,GB.nil _ _,rfl⟩
theorem noEsc(A:AH)(x:Value)(K:Value→AH→Prop)(hK:K x A):Ak Tryz.prog 96 #[x] A K:=fun h hA=>by
 unfold Fl
 rw[if_neg (by rw[show AD Tryz.prog 96=false by kernel_rfl];simp)]
 exact iX Tryz.func96 (by kernel_rfl) (by kernel_rfl) (by kernel_rfl) (e:=Extern.AbiNoEscape.same) (by kernel_rfl) (fun w=>rfl) ⟨x,A,rfl,hA,Cc.refl _ _,hK⟩
theorem ar(b:Nat)(p v:Value)(hp:p=.pointer none∨p=.pointer (some ⟨b,0,none⟩)):Ak Tryz.prog 70 #[.pointer (some ⟨b,0,none⟩)] [(b,.cells #[p,v] 67)] (fun u_ A_=>u_=.tuple #[]∧PM [(b,.cells #[.pointer (some ⟨b,0,none⟩),v] 67)] A_):=by
 refine AQ ⟨Tryz.prog,70,Tryz.f70,20,[0],⟨[96],none⟩,[],_⟩ rfl (args:=[_]) Tryz.func70 rfl (by kernel_rfl) Tryz.ntmps70 (by simp) (by kernel_rfl) ?_
 intro ν fr;have nuE:=And.intro (fr.mem (b:=b) (by simp)) (fr.nu)
 obtain⟨j,hj,hjs⟩:=Option.map_eq_some_iff.1 (show(Tryz.prog.info? 67).map (·.size)=some 2 by kernel_rfl)
 have inf:(Tryz.prog.info? 67).isSome=true:=by kernel_rfl
 rcases hp with rfl|rfl
 ·simp (maxDischargeDepth:=16) only[Af,↓Ae,simprocAttr,forall_const,nuE,Da,↓AK,↓AJ,AU,AR,Ab,Ac,Aq]
  refine rA_toU (e:=67) (cs:= #[.pointer none,v]) (fr:=(0,0)) Tryz.underlying64 Tryz.underlying112 hj (by rw[hjs];decide) (by simp (maxDischargeDepth:=16) only[Af,↓Ae,simprocAttr,forall_const,nuE,Da,↓AK,↓AJ,AU,AR,Ab,Ac,Aq]) (by simp) ?_
  intro ν fr;have nuE:=And.intro (fr.mem (b:=b) (by simp)) (fr.nu)
  simp (maxDischargeDepth:=16) only[Af,↓Ae,simprocAttr,forall_const,nuE,Da,↓AK,↓AJ,AU,AR,Ab,Ac,Aq]
  refine noEsc _ _ _ ?_
  intro ν fr;have nuE:=And.intro (fr.mem (b:=b) (by simp)) (fr.nu)
  simp (maxDischargeDepth:=16) only[Af,↓Ae,simprocAttr,forall_const,nuE,Da,↓AK,↓AJ,AU,AR,Ab,Ac,Aq]
  refine gV (e:=67) (cs:= #[.pointer none,v]) (fr:=(0,0)) Tryz.underlying112 Tryz.underlying64 hj (by simp (maxDischargeDepth:=16) only[Af,↓Ae,simprocAttr,forall_const,nuE,Da,↓AK,↓AJ,AU,AR,Ab,Ac,Aq]) (by kernel_rfl) ?_
  intro ν fr;have nuE:=And.intro (fr.mem (b:=b) (by simp)) (fr.nu)
  simp (maxDischargeDepth:=16) only[Af,↓Ae,simprocAttr,forall_const,nuE,Da,↓AK,↓AJ,AU,AR,Ab,Ac,Aq]
  rfl
 ·simp (maxDischargeDepth:=16) only[Af,↓Ae,simprocAttr,forall_const,nuE,Da,↓AK,↓AJ,AU,AR,Ab,Ac,Aq,inf]
  rfl
theorem ny(l:List UInt8):Lib.strCells (bs l)=XJ l:=by simp[Lib.strCells,XJ,bs]
theorem FB(E:AH)(b:Nat)(l m:List UInt8)(hE:FX E b l)(hm:m≠[])(hl:l.length+m.length≤1000000000):Ak Tryz.prog 34 #[.pointer (some ⟨b,0,none⟩),.string (bs m)] E (fun u_ A_=>u_=.tuple #[.int .i64 (m.length:Int),.nilIface]∧ ∃E',FX E' b (l++m)∧SubA E' A_∧ ∀x,Vm.AA E x≠none→Vm.AA A_ x≠none):=by
 refine AQ ⟨Tryz.prog,34,Tryz.f34,19,[0,1,4,5],⟨[70],none⟩,[],_⟩ rfl (args:=[_,_]) Tryz.func34 rfl (by kernel_rfl) Tryz.ntmps34 (by simp) (by kernel_rfl) ?_
 intro ν fr;have nuE:=fr.nu
 obtain⟨p,v,B,rfl,hp,hn,ho,hb0⟩:=hE
 have hm0:0<m.length:=List.length_pos_iff.2 hm
 simp (maxDischargeDepth:=16) only[Af,↓Ae,simprocAttr,forall_const,nuE,fr.2,Da,↓AK,↓AJ,AU,AR,Ab,Ac,Aq]
 refine Ak.use (ar b p v hp) (SubA.left [_] _) (fun v D h x hx=> ?_) B (SubA.right (B:=[_]) (Dis.one hb0)) (Dis.one hb0) ?_
 ·simp only[Vm.AA]at hx
  split at hx
  ·rename_i e;subst e;rw[h.2.1];simp
  ·exact absurd rfl hx
 rintro u D ⟨rfl,h1,_⟩ dD
 refine⟨[(b,.cells #[.pointer (some ⟨b,0,none⟩),v] 67)],PM.sub ⟨h1,trivial⟩, ?_⟩
 intro ν fr;have nuE:=And.intro (fr.mem (b:=b) (by simp)) (fr.nu)
 simp (maxDischargeDepth:=16) only[Af,↓Ae,simprocAttr,forall_const,nuE,fr.2,Da,↓AK,↓AJ,AU,AR,Ab,Ac,Aq]
 refine Ja.use ?_
 refine Tj (s:=bs m) Z7 Tryz.underlying9 oP (by rw[Ao];exact hm0) ho (SubA.right (B:=[_]) (Dis.one hb0)) (by rw[Ao];simp only[maxLen];omega) (by rw[Ao];omega) ?_
 intro v' B' ho' hB'
 rw[Ao,ny]at ho'
 have hb':Vm.AA B' b=none:=by
  cases hx:Vm.AA B' b with
  |none=>rfl
  |some o=>
   rcases hB' b (by rw[hx];simp)with h|h
   ·exact absurd hb0 h
   ·exact absurd h (by simp[Vm.AA])
 obtain⟨g',cap',hv'⟩: ∃g cap,v'=.slice (some ⟨g,0,none⟩) (l.length+m.length) cap:=by
  rcases ho' with⟨_,⟨_,_,h⟩|⟨g,cap,cur,h2,_⟩⟩
  ·omega
  ·exact⟨g,cap,h2⟩
 subst hv'
 refine Exists.intro ((b,.cells #[.pointer (some ⟨b,0,none⟩),v] 67)::(B'++B)) (And.intro (SubA.cons (by rw[G0 hb'];simp[Vm.AA]) (SubA.app (SubA.skip hb0 (SubA.refl _)))) ?_)
 intro ν fr;have nuE:=And.intro (fr.mem (b:=b) (by simp)) (fr.nu)
 simp (maxDischargeDepth:=16) only[Af,↓Ae,simprocAttr,forall_const,nuE,fr.2,Da,↓AK,↓AJ,AU,AR,Ab,Ac,Aq,Ao]
 refine⟨(b,.cells #[.pointer (some ⟨b,0,none⟩),.slice (some ⟨g',0,none⟩) (l.length+m.length) cap'] 67)::B',⟨_,_,B',rfl,.inr rfl,fun h=> ?_, ?_,hb'⟩,SubA.app (B:=[_]) (SubA.left B' B),fun x hx=> ?_⟩
 ·exact absurd h (by simp[hm])
 ·rw[ZX,List.length_append];exact ho'
 ·by_cases e:b=x
  ·rw[if_pos e];simp
  ·rw[if_neg e]at hx⊢
   rw[B5]
   split
   ·simp
   ·exact hx
theorem FX.use{E X A:AH}{P:Program}{g:FuncId}{args:Array Value}{K:Value→AH→Prop}{u0:Value}{b:Nat}{l':List UInt8}
  (hc:Ak P g args E fun u A'=>u=u0∧ ∃E',FX E' b l'∧SubA E' A'∧ ∀b,Vm.AA E b≠none→Vm.AA A' b≠none) (hs:SubA E A) (hX:SubA X A) (hd:Dis E X)
  (hk: ∀E',FX E' b l'→Dis E' X→K u0 (E'++X)):Ak P g args A K:=
 Ak.use hc hs (fun v D h b hb=>h.2.choose_spec.2.2 b hb) X hX hd (by
  rintro v D ⟨rfl,E',h1,h2,h3⟩ dD
  exact⟨E',h2,hk E' h1 (dD.subl h2)⟩)
theorem Ua(E:AH)(b:Nat)(l:List UInt8)(hE:FX E b l)(hl:l.length≤1000000000):Ak Tryz.prog 35 #[.pointer (some ⟨b,0,none⟩)] E (fun u_ A_=>u_=.string (bs l)∧ ∀x,Vm.AA E x≠none→Vm.AA A_ x≠none):=by
 refine AQ ⟨Tryz.prog,35,Tryz.f35,14,[0,2],⟨[],none⟩,[],_⟩ rfl (args:=[_]) Tryz.func35 rfl (by kernel_rfl) Tryz.ntmps35 (by simp) (by kernel_rfl) ?_
 intro ν fr;have nuE:=fr.nu
 obtain⟨p,v,B,rfl,hp,hn,ho,hb0⟩:=hE
 by_cases h0:l=[]
 ·have hv:=hn h0
  subst hv
  subst h0
  simp (maxDischargeDepth:=16) only[Af,↓Ae,simprocAttr,forall_const,nuE,Da,↓AK,↓AJ,AU,AR,Ab,Ac,Aq]
  refine C3.plan [(0,0),(1,0),(2,0),(3,0),(5,0),(6,0),(7,0),(8,0),(9,0),(4,0),(10,1),(11,0)] [(b,.cells #[p,.slice none 0 0] 67)] (SubA.left [_] _) (by kernel_rfl) (by kernel_rfl) (by kernel_rfl) (by kernel_rfl) (by kernel_rfl) (by kernel_rfl) ?_
  intro ν fr;have nuE:=And.intro (fr.mem (b:=b) (by simp)) (fr.nu)
  simp (maxDischargeDepth:=16) only[Af,↓Ae,simprocAttr,forall_const,nuE,Da,↓AK,↓AJ,AU,AR,Ab,Ac,Aq,PW]
  refine iK ?_
  intro ν fr;have nuE:=And.intro (fr.mem (b:=b) (by simp)) (fr.nu)
  simp (maxDischargeDepth:=16) only[Af,↓Ae,simprocAttr,forall_const,nuE,Da,↓AK,↓AJ,AU,AR,Ab,Ac,Aq]
  exact⟨rfl,fun x hx=>hx⟩
 ·obtain⟨g,cap,cur,rfl,rfl,h5,h6⟩: ∃g cap cur,v=.slice (some ⟨g,0,none⟩) l.length cap∧B=[(g,.cells cur 5)]∧l.length≤cap∧cur.toList.take l.length=XJ l:=by
   rcases ho with⟨_,⟨_,_,h⟩|⟨g,cap,cur,h2,h3,h4,_,_,h5⟩⟩
   ·exact absurd (List.eq_nil_of_length_eq_zero h) h0
   ·exact⟨g,cap,cur,h2,h3,h4,by simpa using h5⟩
  have hl0:l.length≠0:=fun e=>h0 (List.eq_nil_of_length_eq_zero e)
  simp (maxDischargeDepth:=16) only[Af,↓Ae,simprocAttr,forall_const,nuE,Da,↓AK,↓AJ,AU,AR,Ab,Ac,Aq]
  refine C3.plan [(0,0),(1,0),(2,0),(3,0),(5,0),(6,0),(7,0),(8,0),(9,0),(4,0),(10,1),(11,0)] [(b,.cells #[p,.slice (some ⟨g,0,none⟩) l.length cap] 67)] (SubA.left [_] _) (by kernel_rfl) (by kernel_rfl) (by kernel_rfl) (by kernel_rfl) (by kernel_rfl) (by kernel_rfl) ?_
  intro ν fr;have nuE:=And.intro (fr.mem (b:=b) (by simp)) (fr.nu)
  have hc:cap≠0:=by omega
  have hgb:((b=g)=False)∧((g=b)=False):=by
   have:g≠b:=by
    intro e
    simp[Vm.AA,e]at hb0
   exact⟨eq_false (fun e=>this e.symm),eq_false this⟩
  simp (maxDischargeDepth:=16) only[Af,↓Ae,simprocAttr,forall_const,nuE,Da,↓AK,↓AJ,AU,AR,Ab,Ac,Aq,SA (P:=Tryz.prog) hc]
  refine oH (e:=5) Tryz.underlying97 (by kernel_rfl) (cur:=cur) (by simp (maxDischargeDepth:=16) only[Af,↓Ae,simprocAttr,forall_const,nuE,Da,↓AK,↓AJ,AU,AR,Ab,Ac,Aq,hgb]) h0 h6 (by omega) ?_
  intro ν3 fr3
  have nuE:=fr3.nu
  simp (maxDischargeDepth:=16) only[Af,↓Ae,simprocAttr,forall_const,nuE,Da,↓AK,↓AJ,AU,AR,Ab,Ac,Aq,hgb]
  refine⟨rfl,fun x hx=> ?_⟩
  by_cases e:b=x
  ·rw[if_pos e];simp
  ·rw[if_neg e]at hx⊢
   by_cases e2:g=x
   ·rw[if_pos e2];simp
   ·rw[if_neg e2]at hx
    exact absurd rfl hx
theorem nn(n:Int):C4 Tryz.prog 65 1 [(0,.int .u8 n)]=some (5,#[.int .u8 n]):=by kernel_rfl
theorem M3(E:AH)(b:Nat)(l:List UInt8)(c:UInt8)(hE:FX E b l)(hl:l.length≤1000000000):Ak Tryz.prog 118 #[.pointer (some ⟨b,0,none⟩),.int .u8 (c.toNat:Int)] E (fun u_ A_=>u_=.nilIface∧ ∃E',FX E' b (l++[c])∧SubA E' A_∧ ∀x,Vm.AA E x≠none→Vm.AA A_ x≠none):=by
 refine AQ ⟨Tryz.prog,118,Tryz.f118,17,[0,1,4],⟨[70],none⟩,[],_⟩ rfl (args:=[_,_]) Tryz.func118 rfl (by kernel_rfl) Tryz.ntmps118 (by simp) (by kernel_rfl) ?_
 intro ν fr;have nuE:=fr.nu
 obtain⟨p,v,B,rfl,hp,hn,ho,hb0⟩:=hE
 simp (maxDischargeDepth:=16) only[Af,↓Ae,simprocAttr,forall_const,nuE,Da,↓AK,↓AJ,AU,AR,Ab,Ac,Aq]
 refine Ak.use (ar b p v hp) (SubA.left [_] _) (fun v D h x hx=> ?_) B (SubA.right (B:=[_]) (Dis.one hb0)) (Dis.one hb0) ?_
 ·simp only[Vm.AA]at hx
  split at hx
  ·rename_i e;subst e;rw[h.2.1];simp
  ·exact absurd rfl hx
 rintro u D ⟨rfl,h1,_⟩ dD
 refine⟨[(b,.cells #[.pointer (some ⟨b,0,none⟩),v] 67)],PM.sub ⟨h1,trivial⟩, ?_⟩
 intro ν fr;have nuE:=And.intro (fr.mem (b:=b) (by simp)) (fr.nu)
 simp (maxDischargeDepth:=16) only[Af,↓Ae,simprocAttr,forall_const,nuE,Da,↓AK,↓AJ,AU,AR,Ab,Ac,Aq,nn]
 have hν0:Vm.AA B (ν 0)=none:=(show SubA B ((b,Obj.cells #[.pointer (some ⟨b,0,none⟩),v] 67)::B) from SubA.right (B:=[_]) (Dis.one hb0)).none (fr.2 0)
 refine Ja.use ?_
 refine KJ (m:=1) (g:=ν 0) (off:=0) (news:=XJ [c]) Z7 oP rfl (by decide) ho ?_ ?_ (by simp[XJ,Value.oneCell']) (by simp only[maxLen];omega) (by omega) ?_
 ·exact SubA.skip hν0 (SubA.skip hb0 (SubA.refl _))
 ·simp (maxDischargeDepth:=16) only[Af,↓Ae,simprocAttr,forall_const,nuE,Da,↓AK,↓AJ,AU,AR,Ab,Ac,Aq,XJ,List.map]
 intro v' B' ho' hB'
 have hb':Vm.AA B' b=none:=by
  cases hx:Vm.AA B' b with
  |none=>rfl
  | some o=>
   rcases hB' b (by rw[hx];simp)with h|h
   ·exact absurd hb0 h
   ·have:Vm.AA ((ν 0,Obj.cells #[.int .u8 (c.toNat:Int)] 5)::(b,Obj.cells #[.pointer (some ⟨b,0,none⟩),v] 67)::B) b≠none:=by simp[Vm.AA,nuE]
    exact absurd h this
 obtain⟨g',cap',hv'⟩: ∃g cap,v'=.slice (some ⟨g,0,none⟩) (l.length+1) cap:=by
  rcases ho' with⟨_,⟨_,_,h⟩|⟨g,cap,cur,h2,_⟩⟩
  ·omega
  ·exact⟨g,cap,h2⟩
 subst hv'
 refine Exists.intro ((b,.cells #[.pointer (some ⟨b,0,none⟩),v] 67)::(B'++B)) (And.intro (SubA.cons (by rw[G0 hb'];simp[Vm.AA,nuE]) (SubA.app (SubA.skip hν0 (SubA.skip hb0 (SubA.refl _))))) ?_)
 intro ν fr;have nuE:=And.intro (fr.mem (b:=b) (by simp)) (fr.nu)
 simp (maxDischargeDepth:=16) only[Af,↓Ae,simprocAttr,forall_const,nuE,Da,↓AK,↓AJ,AU,AR,Ab,Ac,Aq]
 refine⟨(b,.cells #[.pointer (some ⟨b,0,none⟩),.slice (some ⟨g',0,none⟩) (l.length+1) cap'] 67)::B',⟨_,_,B',rfl,.inr rfl,by simp, ?_,hb'⟩,SubA.app (B:=[_]) (SubA.left B' B),fun x hx=> ?_⟩
 ·rw[ZX,List.length_append];exact ho'
 ·by_cases e:b=x
  ·rw[if_pos e];simp
  ·rw[if_neg e]at hx⊢
   rw[B5]
   split
   ·simp
   ·exact hx
theorem Zw(A:AH)(hT:FY A)(n:Int)(h0: -9223372036854775808≤n)(h1:n≤9223372036854775807)(B:AH)(hB:SubA A B):Bi Tryz.prog 69 #[.int .i64 n,.int .i64 10] B=some (.string (bs (Lib.itoa n))):=
 BP ⟨fun _=>by kernel_rfl,fun h hs=>by
  unfold Fl
  rw[if_pos (by kernel_rfl)]
  intro w hw
  subst hw
  have ht:Lib.TabIs Tryz.prog w "internal/strconv.uint64pow10" .u64 Lib.pow10Tab:=by
   obtain⟨g,e,fr,hg,hl⟩:=hT
   have:=hs _ _ (hB _ _ hl)
   unfold Lib.TabIs World.var?
   rw[hg]
   simp[this]
  refine(Tryz.strconv_FormatInt_10 n h0 h1 w ht).mono fun e w' ⟨he,k,os,hw'⟩=> ?_
  subst hw'
  exact⟨⟨he,⟨by simp[Go.Sort.grow,World.drewN],fun j hj=>by simp only[Go.Sort.grow,World.drewN];exact Array.getElem?_append_left hj⟩⟩,rfl,rfl,rfl⟩⟩
end Go.Proofs.YtfphceknmgadgaaGreatDoor
namespace Go.Proofs.YtfphceknmgadgaaGreatDoor
open Go.Vm
set_option maxHeartbeats 4000000
set_option maxRecDepth 20000
def Hi(s:ByteArray):Bool:=DS s&& !(Ju s)
theorem ck(s:ByteArray):Ak Tryz.prog 138 #[.string s] [] (fun u_ _=>u_=.bool (Hi s)):=by
 refine AQ ⟨Tryz.prog,138,Tryz.f138,10,[0,2],⟨[],none⟩,[],_⟩ rfl (args:=[_]) Tryz.func138 rfl (by kernel_rfl) Tryz.ntmps138 (by simp) (by kernel_rfl) ?_
 intro ν fr;have nuE:=fr.nu
 unfold Hi
 cases h1:DS s with
 |true=>cases h2:Ju s<;>simp (maxDischargeDepth:=16) only[Af,↓Ae,simprocAttr,forall_const,nuE,fr.2,Da,↓AK,↓AJ,AU,AR,Ab,Ac,Aq,h1,h2]
 |false=>simp (maxDischargeDepth:=16) only[Af,↓Ae,simprocAttr,forall_const,nuE,fr.2,Da,↓AK,↓AJ,AU,AR,Ab,Ac,Aq,h1]
theorem Bh(s:ByteArray)(A_:AH):Bi Tryz.prog 138 #[.string s] A_=some (.bool (Hi s)):=BP (B7 (by kernel_rfl) (ck s))
def chB(c:UInt8):Bool:=decide (32≤c.toNat)&&decide (c.toNat≤126)&&decide (c.toNat≠34)
def Gq(s:ByteArray):Bool:=decide (s.size≤100)&&s.toList.all chB
theorem eb(s:ByteArray)(hs:s.size≤9223372036854775807):Ak Tryz.prog 137 #[.string s] [] (fun u_ _=>u_=.bool (Gq s)):=by
 refine AQ ⟨Tryz.prog,137,Tryz.f137,29,[0,2,3,8,9],⟨[],none⟩,[],_⟩ rfl (args:=[_]) Tryz.func137 rfl (by kernel_rfl) Tryz.ntmps137 (by simp) (by kernel_rfl) ?_
 intro ν fr;have nuE:=fr.nu
 by_cases h1:s.size≤100
 rotate_left
 ·have e1:(100<(s.size:Int)):=by omega
  simp (maxDischargeDepth:=16) only[Af,↓Ae,simprocAttr,forall_const,nuE,fr.2,Da,↓AK,↓AJ,AU,AR,Ab,Ac,Aq,Bh,e1]
  simp[Gq,h1]
 have e1:(100<(s.size:Int))=False:=eq_false (by omega)
 simp (maxDischargeDepth:=16) only[Af,↓Ae,simprocAttr,forall_const,nuE,fr.2,Da,↓AK,↓AJ,AU,AR,Ab,Ac,Aq,Bh,e1]
 obtain⟨e,l,he,hd,hle,hx⟩: ∃(e:Nat) (l:List UInt8),e=0∧s.toList.drop e=l∧e≤s.size∧Gq s=l.all chB:=⟨0,_,rfl,rfl,by omega,by simp[Gq,h1]⟩
 rw[show(9,some (Value.int .i64 0))=(9,some (Value.int .i64 (e:Int))) by rw[he];rfl]
 clear he nuE fr e1
 induction l generalizing e with
 | nil=>
  have hn:e=s.size:=by
   have:=congrArg List.length hd
   rw[List.length_drop,Ah]at this
   simp at this
   omega
  have lt:((e:Int)<(s.size:Int))=False:=eq_false (by omega)
  refine At.intro (by kernel_rfl) ?_
  intro ν fr;have nuE:=fr.nu
  simp (maxDischargeDepth:=16) only[Af,↓Ae,simprocAttr,forall_const,nuE,fr.2,Da,↓AK,↓AJ,AU,AR,Ab,Ac,Aq,Bh,lt]
  rw[hx];rfl
 | cons c l ih=>
  obtain⟨hp,hc,hl',hsl,hb⟩:=Ck hd
  have hcl:=Dl c
  have lt:((e:Int)<(s.size:Int))=True:=eq_true (by omega)
  have we:IntKind.i64.wrap ((e:Int)+1)=((e+1:Nat):Int):=by rw[Az (by omega) (by omega)];omega
  refine At.intro (by kernel_rfl) ?_
  intro ν fr;have nuE:=fr.nu
  by_cases c1:c.toNat<32
  ·have k1:((c.toNat:Int)<32):=by omega
   have hcb:chB c=false:=by simp[chB];omega
   simp (maxDischargeDepth:=16) only[Af,↓Ae,simprocAttr,forall_const,nuE,fr.2,Da,↓AK,↓AJ,AU,AR,Ab,Ac,Aq,Bh,lt,hb,k1]
   rw[hx,List.all_cons,hcb];rfl
  have k1:((c.toNat:Int)<32)=False:=eq_false (by omega)
  by_cases c2:126<c.toNat
  ·have k2:(126<(c.toNat:Int)):=by omega
   have hcb:chB c=false:=by simp[chB];omega
   simp (maxDischargeDepth:=16) only[Af,↓Ae,simprocAttr,forall_const,nuE,fr.2,Da,↓AK,↓AJ,AU,AR,Ab,Ac,Aq,Bh,lt,hb,k1,k2]
   rw[hx,List.all_cons,hcb];rfl
  have k2:(126<(c.toNat:Int))=False:=eq_false (by omega)
  by_cases c3:c.toNat=34
  ·have k3:((c.toNat:Int)==34)=true:=by simp;omega
   have k3':((c.toNat:Int)=34)=True:=eq_true (by omega)
   have hcb:chB c=false:=by simp[chB];omega
   simp (maxDischargeDepth:=16) only[Af,↓Ae,simprocAttr,forall_const,nuE,fr.2,Da,↓AK,↓AJ,AU,AR,Ab,Ac,Aq,Bh,lt,hb,k1,k2,k3,k3']
   rw[hx,List.all_cons,hcb];rfl
  have k3:((c.toNat:Int)==34)=false:=by simp;omega
  have k3':((c.toNat:Int)=34)=False:=eq_false (by omega)
  have hcb:chB c=true:=by simp[chB];omega
  simp (maxDischargeDepth:=16) only[Af,↓Ae,simprocAttr,forall_const,nuE,fr.2,Da,↓AK,↓AJ,AU,AR,Ab,Ac,Aq,Bh,lt,hb,k1,k2,k3,k3',we]
  exact At.weak (ih (e+1) hl' (by omega) (by rw[hx,List.all_cons,hcb,Bool.true_and])) (by simp only[Bo,Ag,Nat.reduceEqDiff,↓reduceIte,reduceCtorEq,Nat.reduceAdd,and_self,and_true]) (SubA.refl _)
theorem CS(s:ByteArray)(hs:s.size≤9223372036854775807)(A_:AH):Bi Tryz.prog 137 #[.string s] A_=some (.bool (Gq s)):=BP (B7 (by kernel_rfl) (eb s hs))
end Go.Proofs.YtfphceknmgadgaaGreatDoor
namespace Go.Proofs.YtfphceknmgadgaaGreatDoor
open Go.Vm
set_option maxHeartbeats 4000000
set_option maxRecDepth 20000
def He(s:ByteArray):Bool:=decide (s.toList=[])
theorem DF:ByteArray.toList ⟨#[]⟩=[]:=by rw[ByteArray.toList_eq]
def Cu(op:Int)(nm tx:ByteArray)(n:Int)(k:Nat):Bool:=
 if op=1 then decide (0≤n)&&decide (n≤9007199254740992)&&He nm&&He tx&&decide (k=0)
 else if op=2 then Gq tx&&He nm&&decide (n=0)&&decide (k=0)
 else if op=3 then Hi nm&&He tx&&decide (n=0)&&decide (k=0)
 else if op=16∨op=17 then Hi nm&&decide (0≤n)&&decide (n≤9007199254740992)&&He tx&&decide (k=0)
 else He nm&&He tx&&decide (n=0)&&(if op=4∨op=5 then decide (k=1)else if 6≤op∧op≤14 then decide (k=2)else decide (op=15)&&decide (2≤k))
theorem u5(r:Xr)(htx:r.tx.size≤9223372036854775807):Ak Tryz.prog 115 #[.agg #[.int .i64 r.op,.string r.nm,.string r.tx,.int .i64 r.n,.slice r.p r.len r.cap]] [] (fun u_ _=>u_=.bool (Cu r.op r.nm r.tx r.n r.len)):=by
 refine AQ ⟨Tryz.prog,115,Tryz.f115,135,[0,1,2,3,8,110],⟨[],none⟩,[],_⟩ rfl (args:=[_]) Tryz.func115 rfl (by kernel_rfl) Tryz.ntmps115 (by simp) (by kernel_rfl) ?_
 intro ν fr;have nuE:=fr.nu
 have lv:=CS r.tx htx
 have kz:((r.len:Int)=0)=(r.len=0):=propext (by omega)
 have k1:((r.len:Int)=1)=(r.len=1):=propext (by omega)
 have k2:((r.len:Int)=2)=(r.len=2):=propext (by omega)
 have k3:(2≤(r.len:Int))=(2≤r.len):=propext (by omega)
 have b0:((r.len:Int)==0)=decide (r.len=0):=by rw[Bool.eq_iff_iff];first|(simp;done)|(simp;omega)
 have b1:((r.len:Int)==1)=decide (r.len=1):=by rw[Bool.eq_iff_iff];first|(simp;done)|(simp;omega)
 have b2:((r.len:Int)==2)=decide (r.len=2):=by rw[Bool.eq_iff_iff];first|(simp;done)|(simp;omega)
 have bt:(r.tx.toList==[])=decide (r.tx.toList=[]):=by cases r.tx.toList<;>rfl
 by_cases o1:r.op=1
 ·simp (maxDischargeDepth:=16) only[Af,↓Ae,simprocAttr,forall_const,nuE,fr.2,Da,↓AK,↓AJ,AU,AR,Ab,Ac,Aq,Bh,CS,o1,b0,bt,DF]
  simp only[Cu,He,if_true]
  by_cases n0:0≤r.n<;>by_cases n1:r.n≤9007199254740992<;>by_cases e1:r.nm.toList=[]<;>simp[n0,n1,e1]
 by_cases o2:r.op=2
 ·cases hl:Gq r.tx<;>simp (maxDischargeDepth:=16) only[Af,↓Ae,simprocAttr,forall_const,nuE,fr.2,Da,↓AK,↓AJ,AU,AR,Ab,Ac,Aq,Bh,CS,o2,b0,bt,DF,lv,hl]
  all_goals simp only[Cu,He,if_true,hl]
  all_goals by_cases e1:r.nm.toList=[]<;>by_cases e3:r.n=0<;>simp[e1,e3]
 by_cases o3:r.op=3
 ·cases hl:Hi r.nm<;>simp (maxDischargeDepth:=16) only[Af,↓Ae,simprocAttr,forall_const,nuE,fr.2,Da,↓AK,↓AJ,AU,AR,Ab,Ac,Aq,Bh,CS,o3,b0,bt,DF,hl]
  all_goals simp only[Cu,He,if_true,hl]
  all_goals by_cases e1:r.tx.toList=[]<;>by_cases e3:r.n=0<;>simp[e1,e3]
 by_cases o16:r.op=16
 ·cases hl:Hi r.nm<;>simp (maxDischargeDepth:=16) only[Af,↓Ae,simprocAttr,forall_const,nuE,fr.2,Da,↓AK,↓AJ,AU,AR,Ab,Ac,Aq,Bh,CS,o16,b0,bt,DF,hl]
  all_goals simp only[Cu,He,if_true,hl]
  all_goals by_cases n0:0≤r.n<;>by_cases n1:r.n≤9007199254740992<;>by_cases e1:r.tx.toList=[]<;>simp[n0,n1,e1]
 by_cases o17:r.op=17
 ·cases hl:Hi r.nm<;>simp (maxDischargeDepth:=16) only[Af,↓Ae,simprocAttr,forall_const,nuE,fr.2,Da,↓AK,↓AJ,AU,AR,Ab,Ac,Aq,Bh,CS,o17,b0,bt,DF,hl]
  all_goals simp only[Cu,He,if_true,hl]
  all_goals by_cases n0:0≤r.n<;>by_cases n1:r.n≤9007199254740992<;>by_cases e1:r.tx.toList=[]<;>simp[n0,n1,e1]
 have hF:Cu r.op r.nm r.tx r.n r.len=(He r.nm&&He r.tx&&decide (r.n=0)&&(if r.op=4∨r.op=5 then decide (r.len=1)else if 6≤r.op∧r.op≤14 then decide (r.len=2)else decide (r.op=15)&&decide (2≤r.len))):=by
  unfold Cu
  rw[if_neg o1,if_neg o2,if_neg o3,if_neg (by omega)]
 rw[hF]
 clear hF
 by_cases e1:r.nm.toList=[]
 rotate_left
 ·simp (maxDischargeDepth:=16) only[Af,↓Ae,simprocAttr,forall_const,nuE,fr.2,Da,↓AK,↓AJ,AU,AR,Ab,Ac,Aq,Bh,CS,eq_false o1,eq_false o2,eq_false o3,eq_false o16,eq_false o17,DF,eq_false e1]
  simp[He,e1]
 by_cases e2:r.tx.toList=[]
 rotate_left
 ·simp (maxDischargeDepth:=16) only[Af,↓Ae,simprocAttr,forall_const,nuE,fr.2,Da,↓AK,↓AJ,AU,AR,Ab,Ac,Aq,Bh,CS,eq_false o1,eq_false o2,eq_false o3,eq_false o16,eq_false o17,DF,e1,eq_false e2]
  simp[He,e2]
 by_cases e3:r.n=0
 rotate_left
 ·simp (maxDischargeDepth:=16) only[Af,↓Ae,simprocAttr,forall_const,nuE,fr.2,Da,↓AK,↓AJ,AU,AR,Ab,Ac,Aq,Bh,CS,eq_false o1,eq_false o2,eq_false o3,eq_false o16,eq_false o17,DF,e1,e2,eq_false e3]
  try simp[He,e3]
 have hE:(He r.nm&&He r.tx&&decide (r.n=0))=true:=by simp[He,e1,e2,e3]
 rw[hE,Bool.true_and]
 clear hE
 by_cases o4:r.op=4
 ·simp (maxDischargeDepth:=16) only[Af,↓Ae,simprocAttr,forall_const,nuE,fr.2,Da,↓AK,↓AJ,AU,AR,Ab,Ac,Aq,Bh,CS,o4,DF,e1,e2,e3,b1]
 by_cases o5:r.op=5
 ·simp (maxDischargeDepth:=16) only[Af,↓Ae,simprocAttr,forall_const,nuE,fr.2,Da,↓AK,↓AJ,AU,AR,Ab,Ac,Aq,Bh,CS,o5,DF,e1,e2,e3,b1]
 rw[if_neg (by omega)]
 by_cases hm:6≤r.op∧r.op≤14
 ·rw[if_pos hm]
  obtain h|h|h|h|h|h|h|h|h:r.op=6∨r.op=7∨r.op=8∨r.op=9∨r.op=10∨r.op=11∨r.op=12∨r.op=13∨r.op=14:=by omega
  all_goals simp (maxDischargeDepth:=16) only[Af,↓Ae,simprocAttr,forall_const,nuE,fr.2,Da,↓AK,↓AJ,AU,AR,Ab,Ac,Aq,Bh,CS,h,DF,e1,e2,e3,b2]
 rw[if_neg hm]
 have o6:(r.op=6)=False:=eq_false (by omega)
 have o7:(r.op=7)=False:=eq_false (by omega)
 have o8:(r.op=8)=False:=eq_false (by omega)
 have o9:(r.op=9)=False:=eq_false (by omega)
 have o10:(r.op=10)=False:=eq_false (by omega)
 have o11:(r.op=11)=False:=eq_false (by omega)
 have o12:(r.op=12)=False:=eq_false (by omega)
 have o13:(r.op=13)=False:=eq_false (by omega)
 have o14:(r.op=14)=False:=eq_false (by omega)
 by_cases o15:r.op=15
 ·simp (maxDischargeDepth:=16) only[Af,↓Ae,simprocAttr,forall_const,nuE,fr.2,Da,↓AK,↓AJ,AU,AR,Ab,Ac,Aq,Bh,CS,o15,DF,e1,e2,e3,k3]
 ·simp (maxDischargeDepth:=16) only[Af,↓Ae,simprocAttr,forall_const,nuE,fr.2,Da,↓AK,↓AJ,AU,AR,Ab,Ac,Aq,Bh,CS,eq_false o1,eq_false o2,eq_false o3,eq_false o4,eq_false o5,eq_false o16,eq_false o17,o6,o7,o8,o9,o10,o11,o12,o13,o14,eq_false o15,DF,e1,e2,e3]
  simp[o15]
theorem Eu(r:Xr)(htx:r.tx.size≤9223372036854775807)(A_:AH):Bi Tryz.prog 115 #[.agg #[.int .i64 r.op,.string r.nm,.string r.tx,.int .i64 r.n,.slice r.p r.len r.cap]] A_=some (.bool (Cu r.op r.nm r.tx r.n r.len)):=BP (B7 (by kernel_rfl) (u5 r htx))
end Go.Proofs.YtfphceknmgadgaaGreatDoor
namespace Go.Proofs.YtfphceknmgadgaaGreatDoor
open Go.Vm
set_option maxHeartbeats 4000000
set_option maxRecDepth 20000
mutual
def wX:Xs→Bool
 | .mk op nm tx n args=>Cu op nm tx n args.length&&wL args
def wL:List Xs→Bool
 | []=>true
 |x::l=>wX x&&wL l
end
theorem NU: ∀l:List Xs,wL l=l.all wX
 | []=>by simp[wL]
 |x::l=>by simp[wL,NU l]
inductive SzX:Xs→Prop
 |mk {op n:Int} {nm tx:ByteArray} {args:List Xs}:nm.size≤9223372036854775807→tx.size≤9223372036854775807→(∀x∈args,SzX x)→SzX (.mk op nm tx n args)
theorem vG(A:AH)(op n:Int)(nm tx:ByteArray)(args:List Xs)(p:Option Addr)(cap:Nat)(rs:List Xr)(hl:args.length≤140737488355328)(hrs:rs.length=args.length)(hS:E8 C8 5 A p rs)(htx:tx.size≤9223372036854775807)(ih: ∀(k:Nat) (x:Xs) (r:Xr),args[k]? =some x→rs[k]? =some r→ ∀B,SubA A B→Bi Tryz.prog 93 #[EG r] B=some (.bool (wX x))):Ak Tryz.prog 93 #[.agg #[.int .i64 op,.string nm,.string tx,.int .i64 n,.slice p args.length cap]] A (fun u_ A_=>u_=.bool (wX (.mk op nm tx n args))∧SubA A A_):=by
 refine AQ ⟨Tryz.prog,93,Tryz.f93,19,[0,1,2,4,9,10,11],⟨[],none⟩,[],_⟩ rfl (args:=[_]) Tryz.func93 rfl (by kernel_rfl) Tryz.ntmps93 (by simp) (by kernel_rfl) ?_
 intro ν fr;have nuE:=fr.nu
 have f0:=fr.2 0
 have hv:=Eu ⟨op,nm,tx,n,p,args.length,cap⟩ htx
 simp only[]at hv
 have hw:wX (.mk op nm tx n args)=(Cu op nm tx n args.length&&args.all wX):=by rw[wX,NU]
 rw[hw]
 cases hf:Cu op nm tx n args.length with
 |false=>
  rw[hf]at hv
  simp (maxDischargeDepth:=16) only[Af,↓Ae,simprocAttr,forall_const,nuE,fr.2,Da,↓AK,↓AJ,AU,AR,Ab,Ac,Aq,Bh,CS,Eu,hv]
 | true=>
  rw[hf]at hv
  simp (maxDischargeDepth:=16) only[Af,↓Ae,simprocAttr,forall_const,nuE,fr.2,Da,↓AK,↓AJ,AU,AR,Ab,Ac,Aq,Bh,CS,Eu,hv]
  have dst_:True:=(by simp[nuE]);generalize ν 0=n1 at dst_  f0⊢
  clear nuE fr hv hf hw
  obtain⟨e,l,he,hd,hle,hx⟩: ∃(e:Nat) (l:List Xs),e=0∧l=args.drop e∧e≤args.length∧(true&&args.all wX)=l.all wX:=⟨0,_,rfl,rfl,by omega,rfl⟩
  rw[hx]
  rw[show(11,some (Value.int .i64 0))=(11,some (Value.int .i64 (e:Int))) by rw[he];rfl]
  clear he hx
  induction l generalizing e with
  |nil=>
   obtain⟨hn1,hn2⟩:=drop_nil hd hle
   have lt:((e:Int)<(args.length:Int))=False:=eq_false (by omega)
   refine At.intro (by kernel_rfl) ?_
   intro ν fr;have nuE:=And.intro (fr.mem (b:=n1) (by simp)) (fr.nu)
   simp (maxDischargeDepth:=16) only[Af,↓Ae,simprocAttr,forall_const,nuE,fr.2,Da,↓AK,↓AJ,AU,AR,Ab,Ac,Aq,Bh,CS,Eu,lt]
   exact⟨rfl,SubA.fresh f0 (SubA.refl _)⟩
  | cons x l ihl=>
   obtain⟨ha,hlt,hd',htk⟩:=DH hd
   have lt:((e:Int)<(args.length:Int))=True:=eq_true (by omega)
   have li:((e:Int)<0)=False:=eq_false (by omega)
   have we:IntKind.i64.wrap ((e:Int)+1)=((e+1:Nat):Int):=by rw[Az (by omega) (by omega)];omega
   obtain⟨s,hs⟩: ∃s,rs[e]? =some s:=⟨_,List.getElem?_eq_getElem (by omega)⟩
   obtain⟨bk,off,cs,ty,fr0,hp0,hbk,hcr,hcc⟩:=hS.at hs
   subst hp0
   simp only[C8]at hcr
   obtain⟨q1,q2⟩:=BE f0 hbk
   refine At.intro (by kernel_rfl) ?_
   intro ν fr;have nuE:=And.intro (fr.mem (b:=n1) (by simp)) (fr.nu)
   have f1:=fr.2 0
   have iv:=fun o=>ih e x s ha hs ((ν 0,o)::(n1,.cells #[.int .i64 op,.string nm,.string tx,.int .i64 n,.slice (some ⟨bk,off,none⟩) args.length cap] 36)::A) (SubA.fresh f1 (SubA.fresh f0 (SubA.refl _)))
   simp only[EG,C8]at iv
   cases hw:wX x with
   |true=>
    rw[hw]at iv
    simp (maxDischargeDepth:=16) only[Af,↓Ae,simprocAttr,forall_const,nuE,fr.2,Da,↓AK,↓AJ,AU,AR,Ab,Ac,Aq,Bh,CS,Eu,lt,li,hbk,hcr,q1,q2,iv,we]
    have hc:(x::l).all wX=l.all wX:=by simp[hw]
    rw[hc]
    exact At.weak (ihl (e+1) hd' (by omega)) (by simp only[Bo,Ag,Nat.reduceEqDiff,↓reduceIte,reduceCtorEq,Nat.reduceAdd,and_self,and_true]) (SubA.fresh f1 (SubA.refl _))
   |false=>
    rw[hw]at iv
    simp (maxDischargeDepth:=16) only[Af,↓Ae,simprocAttr,forall_const,nuE,fr.2,Da,↓AK,↓AJ,AU,AR,Ab,Ac,Aq,Bh,CS,Eu,lt,li,hbk,hcr,q1,q2,iv,we]
    exact⟨by simp[hw],SubA.fresh f1 (SubA.fresh f0 (SubA.refl _))⟩
theorem vC(A:AH)(op n:Int)(nm tx:ByteArray)(args:List Xs)(p:Option Addr)(cap:Nat)(rs:List Xr)(hl:args.length≤140737488355328)(hrs:rs.length=args.length)(hS:E8 C8 5 A p rs)(htx:tx.size≤9223372036854775807)(ih: ∀(k:Nat) (x:Xs) (r:Xr),args[k]? =some x→rs[k]? =some r→ ∀B,SubA A B→Bi Tryz.prog 93 #[EG r] B=some (.bool (wX x)))(B_:AH)(hB_:SubA A B_):Bi Tryz.prog 93 #[.agg #[.int .i64 op,.string nm,.string tx,.int .i64 n,.slice p args.length cap]] B_=some (.bool (wX (.mk op nm tx n args))):=BP (Ce (by kernel_rfl) (vG A op n nm tx args p cap rs hl hrs hS htx ih) hB_)
theorem isW{A:AH}{t:Xs}{r:Xr}(h:ExR A t r):SzX t→ ∀B,SubA A B→Bi Tryz.prog 93 #[EG r] B=some (.bool (wX t)):=by
 induction h with
 | @mk op n nm tx args p cap rs h0 h0' h1 h2 h3 ih=>
  rintro(⟨z1,z2,z3⟩) B hB
  exact vC A op n nm tx args p cap rs h0 h1 h2 z2 (fun k x r hx hr C hC=>ih k x r hx hr (z3 x (List.mem_of_getElem? hx)) C hC) B hB
theorem Mv{op n:Int}{nm tx:ByteArray}{k:Nat}(h:Cu op nm tx n k=true):nm.size≤16∧tx.size≤100:=by
 have e1: ∀{s:ByteArray},He s=true→s.size=0:=fun h=>by
  have:_=_:=of_decide_eq_true h
  rw[←Ah,this];rfl
 have e2: ∀{s:ByteArray},Gq s=true→s.size≤100:=fun h=>by
  unfold Gq at h
  simp only[Bool.and_eq_true,decide_eq_true_eq]at h
  exact h.1
 have e3: ∀{s:ByteArray},Hi s=true→s.size≤16:=fun h=>by
  unfold Hi DS at h
  simp only[Bool.and_eq_true,decide_eq_true_eq]at h
  exact h.1.2.1
 unfold Cu at h
 split at h
 ·simp only[Bool.and_eq_true]at h
  have:=e1 h.1.1.2;have:=e1 h.1.2;omega
 ·split at h
  ·simp only[Bool.and_eq_true]at h
   have:=e2 h.1.1.1;have:=e1 h.1.1.2;omega
  ·split at h
   ·simp only[Bool.and_eq_true]at h
    have:=e3 h.1.1.1;have:=e1 h.1.1.2;omega
   ·split at h
    ·simp only[Bool.and_eq_true]at h
     have:=e3 h.1.1.1.1;have:=e1 h.1.2;omega
    ·simp only[Bool.and_eq_true]at h
     have:=e1 h.1.1.1;have:=e1 h.1.1.2;omega
end Go.Proofs.YtfphceknmgadgaaGreatDoor
