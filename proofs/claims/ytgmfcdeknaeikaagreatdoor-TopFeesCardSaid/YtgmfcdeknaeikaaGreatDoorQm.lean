/-
Builders; what is writable.
Conditions: none.
-/
import Derived.Test.YtgmfcdeknaeikaaGreatDoorQi
set_option linter.unusedSimpArgs false
set_option linter.unusedVariables false
set_option linter.defProp false
namespace Go.Proofs.YtgmfcdeknaeikaaGreatDoor
open Go.Vm
set_option maxHeartbeats 1000000
set_option maxRecDepth 20000
def ru:=An @Cd (An @C8 (An @C9 (An @CM (An @Cc (An @C6 (An @D1 (An @Cr (An @E5 (An @H2 (An @Es (An @D5 (An @Db (An @El (An @GP (An @Bn (An @De (An @Hh (An @Hi (An @HJ (An @QK (An @Do (An @Ek (An @KG (An @KA (An @KB (An @KH (An @J9 (An @KC @Nz))))))))))))))))))))))))))))
def ED(E:AH)(b:Nat)(l:List UInt8):Prop:= ∃p v B,E=(b,.cells #[p,v] 56)::B∧(p=.pointer none∨p=.pointer (some ⟨b,0,none⟩))∧(l=[]→v=.slice none 0 0)∧Ea 5 1 v B l.length (Rm l)∧Vm.AA B b=none
theorem ED.new(b:Nat):ED [(b,.cells #[.pointer none,.slice none 0 0] 56)] b []:=⟨_,_,[],rfl,.inl rfl,fun _=>rfl,Ea.nil _ _,rfl⟩
theorem qd(A:AH)(x:Value)(K:Value→AH→Prop)(hK:K x A):AK Tryz.prog 76 #[x] A K:=fun h hA=>by
 unfold Di
 rw[if_neg (by rw[show BR Tryz.prog 76=false by kernel_rfl];simp)]
 exact Zn Tryz.func76 (by kernel_rfl) (by kernel_rfl) (by kernel_rfl) (e:=Extern.AbiNoEscape.same) (by kernel_rfl) (fun w=>rfl) ⟨x,A,rfl,hA,BN.refl _ _,hK⟩
theorem T6(b:Nat)(p v:Value)(hp:p=.pointer none∨p=.pointer (some ⟨b,0,none⟩)):AK Tryz.prog 41 #[.pointer (some ⟨b,0,none⟩)] [(b,.cells #[p,v] 56)] (fun u_ A_=>u_=.tuple #[]∧Mr [(b,.cells #[.pointer (some ⟨b,0,none⟩),v] 56)] A_):=by
 refine AC ⟨Tryz.prog,41,Tryz.f41,20,[0],⟨[76],none⟩,[],_⟩ rfl (args:=[_]) Tryz.func41 rfl (by kernel_rfl) Tryz.ntmps41 (by simp) (by kernel_rfl) ?_
 intro ν fr
 obtain⟨j,hj,hjs⟩:=Option.map_eq_some_iff.1 (show(Tryz.prog.info? 56).map (·.size)=some 2 by kernel_rfl)
 have inf:(Tryz.prog.info? 56).isSome=true:=by kernel_rfl
 rcases hp with rfl|rfl
 ·simp only[AF,↓AE,simprocAttr,LC]
  refine nT (e:=56) (cs:= #[.pointer none,v]) (fr:=(0,0)) Tryz.underlying53 Tryz.underlying135 hj (by rw[hjs];decide) (by simp only[AF,simprocAttr]) (by simp) ?_
  intro ν fr
  simp only[AF,↓AE,simprocAttr]
  refine qd _ _ _ ?_
  intro ν fr
  simp only[AF,↓AE,simprocAttr,OO]
  refine bh (e:=56) (cs:= #[.pointer none,v]) (fr:=(0,0)) Tryz.underlying135 Tryz.underlying53 hj (by simp only[AF,simprocAttr]) (by kernel_rfl) ?_
  intro ν fr
  simp only[AF,↓AE,simprocAttr]
  rfl
 ·simp only[AF,↓AE,simprocAttr,LC,SA,inf]
  rfl
theorem kH(l:List UInt8):Lib.strCells (bs l)=Rm l:=by simp[Lib.strCells,Rm,bs]
theorem Dl(E:AH)(b:Nat)(l m:List UInt8)(hE:ED E b l)(hm:m≠[])(hl:l.length+m.length≤1000000000):AK Tryz.prog 17 #[.pointer (some ⟨b,0,none⟩),.string (bs m)] E (fun u_ A_=>u_=.tuple #[.int .i64 (m.length:Int),.nilIface]∧ ∃E',ED E' b (l++m)∧SubA E' A_∧ ∀x,Vm.AA E x≠none→Vm.AA A_ x≠none):=by
 refine AC ⟨Tryz.prog,17,Tryz.f17,19,[0,1,4,5],⟨[41],none⟩,[],_⟩ rfl (args:=[_,_]) Tryz.func17 rfl (by kernel_rfl) Tryz.ntmps17 (by simp) (by kernel_rfl) ?_
 intro ν fr
 obtain⟨p,v,B,rfl,hp,hn,ho,hb0⟩:=hE
 have hm0:0<m.length:=List.length_pos_iff.2 hm
 simp only[AF,↓AE,simprocAttr]
 refine AK.use (T6 b p v hp) (SubA.left [_] _) (fun v D h x hx=> ?_) B (SubA.right (B:=[_]) (Dis.one hb0)) (Dis.one hb0) ?_
 ·simp only[Vm.AA]at hx
  split at hx
  ·rename_i e;subst e;rw[h.2.1];simp
  ·exact absurd rfl hx
 rintro u D ⟨rfl,h1,_⟩ dD
 refine⟨[(b,.cells #[.pointer (some ⟨b,0,none⟩),v] 56)],Mr.sub ⟨h1,trivial⟩, ?_⟩
 intro ν fr
 simp only[AF,↓AE,simprocAttr]
 refine Fv.use ?_
 refine Pj (s:=bs m) lA Tryz.underlying9 sL (by rw[Ab];exact hm0) ho (SubA.right (B:=[_]) (Dis.one hb0)) (by rw[Ab];simp only[maxLen];omega) (by rw[Ab];omega) ?_
 intro v' B' ho' hB'
 rw[Ab,kH]at ho'
 have hb':Vm.AA B' b=none:=by
  cases hx:Vm.AA B' b with
  |none=>rfl
  |some o=>
   rcases hB' b (by rw[hx];simp)with h|h
   ·exact absurd hb0 h
   ·exact absurd h (by simp[Vm.AA])
 obtain⟨g',cap',hv'⟩: ∃g cap,v'=.slice (some ⟨g,0,none⟩) (l.length+m.length) cap:=by
  rcases ho' with⟨_,⟨_,_,h⟩|⟨g,cap,cur,h2,_⟩⟩
  ·omega
  ·exact⟨g,cap,h2⟩
 subst hv'
 refine Exists.intro ((b,.cells #[.pointer (some ⟨b,0,none⟩),v] 56)::(B'++B)) (And.intro (SubA.cons (by rw[F7 hb'];simp[Vm.AA]) (SubA.app (SubA.skip hb0 (SubA.refl _)))) ?_)
 intro ν fr
 simp only[AF,↓AE,simprocAttr,Ab]
 refine⟨(b,.cells #[.pointer (some ⟨b,0,none⟩),.slice (some ⟨g',0,none⟩) (l.length+m.length) cap'] 56)::B',⟨_,_,B',rfl,.inr rfl,fun h=> ?_, ?_,hb'⟩,SubA.app (B:=[_]) (SubA.left B' B),fun x hx=> ?_⟩
 ·exact absurd h (by simp[hm])
 ·rw[T5,List.length_append];exact ho'
 ·by_cases e:b=x
  ·rw[if_pos e];simp
  ·rw[if_neg e]at hx⊢
   rw[BA]
   split
   ·simp
   ·exact hx
theorem ED.use{E X A:AH}{P:Program}{g:FuncId}{args:Array Value}{K:Value→AH→Prop}{u0:Value}{b:Nat}{l':List UInt8}
  (hc:AK P g args E fun u A'=>u=u0∧ ∃E',ED E' b l'∧SubA E' A'∧ ∀b,Vm.AA E b≠none→Vm.AA A' b≠none) (hs:SubA E A) (hX:SubA X A) (hd:Dis E X)
  (hk: ∀E',ED E' b l'→Dis E' X→K u0 (E'++X)):AK P g args A K:=
 AK.use hc hs (fun v D h b hb=>h.2.choose_spec.2.2 b hb) X hX hd (by
  rintro v D ⟨rfl,E',h1,h2,h3⟩ dD
  exact⟨E',h2,hk E' h1 (dD.subl h2)⟩)
theorem Pl(E:AH)(b:Nat)(l:List UInt8)(hE:ED E b l)(hl:l.length≤1000000000):AK Tryz.prog 18 #[.pointer (some ⟨b,0,none⟩)] E (fun u_ A_=>u_=.string (bs l)∧ ∀x,Vm.AA E x≠none→Vm.AA A_ x≠none):=by
 refine AC ⟨Tryz.prog,18,Tryz.f18,14,[0,2],⟨[],none⟩,[],_⟩ rfl (args:=[_]) Tryz.func18 rfl (by kernel_rfl) Tryz.ntmps18 (by simp) (by kernel_rfl) ?_
 intro ν fr
 obtain⟨p,v,B,rfl,hp,hn,ho,hb0⟩:=hE
 by_cases h0:l=[]
 ·have hv:=hn h0
  subst hv
  subst h0
  simp only[AF,↓AE,simprocAttr]
  refine Av.plan [(0,0),(1,0),(2,0),(3,0),(5,0),(6,0),(7,0),(8,0),(9,0),(4,0),(10,1),(11,0)] [(b,.cells #[p,.slice none 0 0] 56)] (SubA.left [_] _) (by kernel_rfl) (by kernel_rfl) (by kernel_rfl) (by kernel_rfl) (by kernel_rfl) (by kernel_rfl) ?_
  intro ν fr
  simp only[AF,↓AE,simprocAttr,↓cO,↓cP,Js,Jt,M8]
  refine bj ?_
  intro ν fr
  simp only[AF,↓AE,simprocAttr]
  exact⟨rfl,fun x hx=>hx⟩
 ·obtain⟨g,cap,cur,rfl,rfl,h5,h6⟩: ∃g cap cur,v=.slice (some ⟨g,0,none⟩) l.length cap∧B=[(g,.cells cur 5)]∧l.length≤cap∧cur.toList.take l.length=Rm l:=by
   rcases ho with⟨_,⟨_,_,h⟩|⟨g,cap,cur,h2,h3,h4,_,_,h5⟩⟩
   ·exact absurd (List.eq_nil_of_length_eq_zero h) h0
   ·exact⟨g,cap,cur,h2,h3,h4,by simpa using h5⟩
  have hl0:l.length≠0:=fun e=>h0 (List.eq_nil_of_length_eq_zero e)
  simp only[AF,↓AE,simprocAttr]
  refine Av.plan [(0,0),(1,0),(2,0),(3,0),(5,0),(6,0),(7,0),(8,0),(9,0),(4,0),(10,1),(11,0)] [(b,.cells #[p,.slice (some ⟨g,0,none⟩) l.length cap] 56)] (SubA.left [_] _) (by kernel_rfl) (by kernel_rfl) (by kernel_rfl) (by kernel_rfl) (by kernel_rfl) (by kernel_rfl) ?_
  intro ν fr
  have hc:cap≠0:=by omega
  have hgb:((b=g)=False)∧((g=b)=False):=by
   have:g≠b:=by
    intro e
    simp[Vm.AA,e]at hb0
   exact⟨eq_false (fun e=>this e.symm),eq_false this⟩
  simp only[AF,↓AE,simprocAttr,↓cO,↓cP,Js,Jt,O4 (P:=Tryz.prog) hc]
  refine jX (e:=5) Tryz.underlying105 (by kernel_rfl) (cur:=cur) (by simp only[AF,simprocAttr,hgb]) h0 h6 (by omega) ?_
  intro ν3 fr3
  simp only[AF,↓AE,simprocAttr,hgb]
  refine⟨rfl,fun x hx=> ?_⟩
  by_cases e:b=x
  ·rw[if_pos e];simp
  ·rw[if_neg e]at hx⊢
   by_cases e2:g=x
   ·rw[if_pos e2];simp
   ·rw[if_neg e2]at hx
    exact absurd rfl hx
theorem j4(n:Int):BP Tryz.prog 54 1 [(0,.int .u8 n)]=some (5,#[.int .u8 n]):=by kernel_rfl
theorem LA(E:AH)(b:Nat)(l:List UInt8)(c:UInt8)(hE:ED E b l)(hl:l.length≤1000000000):AK Tryz.prog 106 #[.pointer (some ⟨b,0,none⟩),.int .u8 (c.toNat:Int)] E (fun u_ A_=>u_=.nilIface∧ ∃E',ED E' b (l++[c])∧SubA E' A_∧ ∀x,Vm.AA E x≠none→Vm.AA A_ x≠none):=by
 refine AC ⟨Tryz.prog,106,Tryz.f106,17,[0,1,4],⟨[41],none⟩,[],_⟩ rfl (args:=[_,_]) Tryz.func106 rfl (by kernel_rfl) Tryz.ntmps106 (by simp) (by kernel_rfl) ?_
 intro ν fr
 obtain⟨p,v,B,rfl,hp,hn,ho,hb0⟩:=hE
 simp only[AF,↓AE,simprocAttr]
 refine AK.use (T6 b p v hp) (SubA.left [_] _) (fun v D h x hx=> ?_) B (SubA.right (B:=[_]) (Dis.one hb0)) (Dis.one hb0) ?_
 ·simp only[Vm.AA]at hx
  split at hx
  ·rename_i e;subst e;rw[h.2.1];simp
  ·exact absurd rfl hx
 rintro u D ⟨rfl,h1,_⟩ dD
 refine⟨[(b,.cells #[.pointer (some ⟨b,0,none⟩),v] 56)],Mr.sub ⟨h1,trivial⟩, ?_⟩
 intro ν fr;have nuE:=fr.m1 rfl
 simp only[AF,↓AE,simprocAttr,j4]
 have hν0:Vm.AA B (ν 0)=none:=(show SubA B ((b,Obj.cells #[.pointer (some ⟨b,0,none⟩),v] 56)::B) from SubA.right (B:=[_]) (Dis.one hb0)).none (fr.2 0)
 refine Fv.use ?_
 refine Hj (m:=1) (g:=ν 0) (off:=0) (news:=Rm [c]) lA sL rfl (by decide) ho ?_ ?_ (by simp[Rm,Value.oneCell']) (by simp only[maxLen];omega) (by omega) ?_
 ·exact SubA.skip hν0 (SubA.skip hb0 (SubA.refl _))
 ·simp only[AF,simprocAttr,Rm,List.map]
 intro v' B' ho' hB'
 have hb':Vm.AA B' b=none:=by
  cases hx:Vm.AA B' b with
  |none=>rfl
  | some o=>
   rcases hB' b (by rw[hx];simp)with h|h
   ·exact absurd hb0 h
   ·have:Vm.AA ((ν 0,Obj.cells #[.int .u8 (c.toNat:Int)] 5)::(b,Obj.cells #[.pointer (some ⟨b,0,none⟩),v] 56)::B) b≠none:=by simp[Vm.AA,nuE]
    exact absurd h this
 obtain⟨g',cap',hv'⟩: ∃g cap,v'=.slice (some ⟨g,0,none⟩) (l.length+1) cap:=by
  rcases ho' with⟨_,⟨_,_,h⟩|⟨g,cap,cur,h2,_⟩⟩
  ·omega
  ·exact⟨g,cap,h2⟩
 subst hv'
 refine Exists.intro ((b,.cells #[.pointer (some ⟨b,0,none⟩),v] 56)::(B'++B)) (And.intro (SubA.cons (by rw[F7 hb'];simp[Vm.AA,nuE]) (SubA.app (SubA.skip hν0 (SubA.skip hb0 (SubA.refl _))))) ?_)
 intro ν fr
 simp only[AF,↓AE,simprocAttr]
 refine⟨(b,.cells #[.pointer (some ⟨b,0,none⟩),.slice (some ⟨g',0,none⟩) (l.length+1) cap'] 56)::B',⟨_,_,B',rfl,.inr rfl,by simp, ?_,hb'⟩,SubA.app (B:=[_]) (SubA.left B' B),fun x hx=> ?_⟩
 ·rw[T5,List.length_append];exact ho'
 ·by_cases e:b=x
  ·rw[if_pos e];simp
  ·rw[if_neg e]at hx⊢
   rw[BA]
   split
   ·simp
   ·exact hx
theorem QJ(A:AH)(hT:Dv A)(n:Int)(h0: -9223372036854775808≤n)(h1:n≤9223372036854775807)(B:AH)(hB:SubA A B):Ag Tryz.prog 40 #[.int .i64 n,.int .i64 10] B=some (.string (bs (Lib.itoa n))):=
 AX ⟨fun _=>by kernel_rfl,fun h hs=>by
  unfold Di
  rw[if_pos (by kernel_rfl)]
  intro w hw
  subst hw
  have ht:Lib.TabIs Tryz.prog w "internal/strconv.uint64pow10" .u64 Lib.pow10Tab:=by
   obtain⟨g,e,fr,hg,hl⟩:=hT
   have:=hs _ _ (hB _ _ hl)
   unfold Lib.TabIs World.var?
   rw[hg]
   simp[this]
  refine(Tryz.strconv_FormatInt_10 n h0 h1 w ht).mono fun e w' ⟨he,k,os,hw'⟩=> ?_
  subst hw'
  exact⟨⟨he,⟨by simp[Go.Sort.grow,World.drewN],fun j hj=>by simp only[Go.Sort.grow,World.drewN];exact Array.getElem?_append_left hj⟩⟩,rfl,rfl,rfl⟩⟩
set_option maxHeartbeats 4000000
set_option maxRecDepth 20000
def JE(s:ByteArray):Bool:=Bp s&& !(M9 s)
theorem WV(s:ByteArray):AK Tryz.prog 134 #[.string s] [] (fun u_ _=>u_=.bool (JE s)):=by
 refine AC ⟨Tryz.prog,134,Tryz.f134,10,[0,2],⟨[],none⟩,[],_⟩ rfl (args:=[_]) Tryz.func134 rfl (by kernel_rfl) Tryz.ntmps134 (by simp) (by kernel_rfl) ?_
 intro ν fr
 unfold JE
 cases h1:Bp s with
 |true=>cases h2:M9 s<;>simp only[AF,↓AE,simprocAttr,ru,h1,h2]
 |false=>simp only[AF,↓AE,simprocAttr,ru,h1]
theorem Bs(s:ByteArray)(A_:AH):Ag Tryz.prog 134 #[.string s] A_=some (.bool (JE s)):=AX (BD (by kernel_rfl) (WV s))
def chB(c:UInt8):Bool:=decide (32≤c.toNat)&&decide (c.toNat≤126)&&decide (c.toNat≠34)
def HU(s:ByteArray):Bool:=decide (s.size≤100)&&s.toList.all chB
theorem aP(s:ByteArray)(hs:s.size≤9223372036854775807):AK Tryz.prog 133 #[.string s] [] (fun u_ _=>u_=.bool (HU s)):=by
 refine AC ⟨Tryz.prog,133,Tryz.f133,29,[0,2,3,8,9],⟨[],none⟩,[],_⟩ rfl (args:=[_]) Tryz.func133 rfl (by kernel_rfl) Tryz.ntmps133 (by simp) (by kernel_rfl) ?_
 intro ν fr
 by_cases h1:s.size≤100
 rotate_left
 ·have e1:(100<(s.size:Int)):=by omega
  simp only[AF,↓AE,simprocAttr,e1]
  simp[HU,h1]
 have e1:(100<(s.size:Int))=False:=eq_false (by omega)
 simp only[AF,↓AE,simprocAttr,e1]
 obtain⟨e,l,he,hd,hle,hx⟩: ∃(e:Nat) (l:List UInt8),e=0∧s.toList.drop e=l∧e≤s.size∧HU s=l.all chB:=⟨0,_,rfl,rfl,by omega,by simp[HU,h1]⟩
 rw[show(9,some (Value.int .i64 0))=(9,some (Value.int .i64 (e:Int))) by rw[he];rfl]
 clear he fr e1
 induction l generalizing e with
 | nil=>
  have hn:e=s.size:=by
   have:=congrArg List.length hd
   rw[List.length_drop,AP]at this
   simp at this
   omega
  have lt:((e:Int)<(s.size:Int))=False:=eq_false (by omega)
  refine AR.intro (by kernel_rfl) ?_
  intro ν fr
  simp only[AF,↓AE,simprocAttr,lt]
  rw[hx];rfl
 | cons c l ih=>
  obtain⟨hp,hc,hl',hsl,hb⟩:=Bj hd
  have hcl:=CZ c
  have lt:((e:Int)<(s.size:Int))=True:=eq_true (by omega)
  have we:IntKind.i64.wrap ((e:Int)+1)=((e+1:Nat):Int):=by rw[AW (by omega) (by omega)];omega
  refine AR.intro (by kernel_rfl) ?_
  intro ν fr
  by_cases c1:c.toNat<32
  ·have k1:((c.toNat:Int)<32):=by omega
   have hcb:chB c=false:=by simp[chB];omega
   simp only[AF,↓AE,simprocAttr,lt,hb,k1]
   rw[hx,List.all_cons,hcb];rfl
  have k1:((c.toNat:Int)<32)=False:=eq_false (by omega)
  by_cases c2:126<c.toNat
  ·have k2:(126<(c.toNat:Int)):=by omega
   have hcb:chB c=false:=by simp[chB];omega
   simp only[AF,↓AE,simprocAttr,lt,hb,k1,k2]
   rw[hx,List.all_cons,hcb];rfl
  have k2:(126<(c.toNat:Int))=False:=eq_false (by omega)
  by_cases c3:c.toNat=34
  ·have k3:((c.toNat:Int)==34)=true:=by simp;omega
   have k3':((c.toNat:Int)=34)=True:=eq_true (by omega)
   have hcb:chB c=false:=by simp[chB];omega
   simp only[AF,↓AE,simprocAttr,lt,hb,k1,k2,k3]
   rw[hx,List.all_cons,hcb];rfl
  have k3:((c.toNat:Int)==34)=false:=by simp;omega
  have k3':((c.toNat:Int)=34)=False:=eq_false (by omega)
  have hcb:chB c=true:=by simp[chB];omega
  simp only[AF,↓AE,simprocAttr,lt,hb,k1,k2,k3,we]
  exact AR.weak (ih (e+1) hl' (by omega) (by rw[hx,List.all_cons,hcb,Bool.true_and])) (by simp[Ah,AO]) (SubA.refl _)
theorem Lv(s:ByteArray)(hs:s.size≤9223372036854775807)(A_:AH):Ag Tryz.prog 133 #[.string s] A_=some (.bool (HU s)):=AX (BD (by kernel_rfl) (aP s hs))
set_option maxHeartbeats 4000000
set_option maxRecDepth 20000
def LD(s:ByteArray):Bool:=decide (s.toList=[])
theorem ZO:ByteArray.toList ⟨#[]⟩=[]:=by rw[ByteArray.toList_eq]
def Cy(op:Int)(nm tx:ByteArray)(n:Int)(k:Nat):Bool:=
 if op=1 then decide (0≤n)&&decide (n≤9007199254740992)&&LD nm&&LD tx&&decide (k=0)
 else if op=2 then HU tx&&LD nm&&decide (n=0)&&decide (k=0)
 else if op=3 then JE nm&&LD tx&&decide (n=0)&&decide (k=0)
 else if op=16∨op=17 then JE nm&&decide (0≤n)&&decide (n≤9007199254740992)&&LD tx&&decide (k=0)
 else LD nm&&LD tx&&decide (n=0)&&(if op=4∨op=5 then decide (k=1)else if 6≤op∧op≤14 then decide (k=2)else decide (op=15)&&decide (2≤k))
theorem mW(r:Xr)(htx:r.tx.size≤9223372036854775807):AK Tryz.prog 103 #[.agg #[.int .i64 r.op,.string r.nm,.string r.tx,.int .i64 r.n,.slice r.p r.len r.cap]] [] (fun u_ _=>u_=.bool (Cy r.op r.nm r.tx r.n r.len)):=by
 refine AC ⟨Tryz.prog,103,Tryz.f103,135,[0,1,2,3,8,110],⟨[],none⟩,[],_⟩ rfl (args:=[_]) Tryz.func103 rfl (by kernel_rfl) Tryz.ntmps103 (by simp) (by kernel_rfl) ?_
 intro ν fr
 have lv:=Lv r.tx htx
 have kz:((r.len:Int)=0)=(r.len=0):=propext (by omega)
 have k1:((r.len:Int)=1)=(r.len=1):=propext (by omega)
 have k2:((r.len:Int)=2)=(r.len=2):=propext (by omega)
 have k3:(2≤(r.len:Int))=(2≤r.len):=propext (by omega)
 have b0:((r.len:Int)==0)=decide (r.len=0):=by rw[Bool.eq_iff_iff];first|(simp;done)|(simp;omega)
 have b1:((r.len:Int)==1)=decide (r.len=1):=by rw[Bool.eq_iff_iff];first|(simp;done)|(simp;omega)
 have b2:((r.len:Int)==2)=decide (r.len=2):=by rw[Bool.eq_iff_iff];first|(simp;done)|(simp;omega)
 have bt:(r.tx.toList==[])=decide (r.tx.toList=[]):=by cases r.tx.toList<;>rfl
 by_cases o1:r.op=1
 ·simp only[AF,↓AE,simprocAttr,Bs,o1,b0,bt]
  simp only[Cy,LD,if_true]
  by_cases n0:0≤r.n<;>by_cases n1:r.n≤9007199254740992<;>by_cases e1:r.nm.toList=[]<;>simp[n0,n1,e1]
 by_cases o2:r.op=2
 ·cases hl:HU r.tx<;>simp only[AF,↓AE,simprocAttr,Bs,o2,b0,bt,lv,hl]
  all_goals simp only[Cy,LD,if_true,hl]
  all_goals by_cases e1:r.nm.toList=[]<;>by_cases e3:r.n=0<;>simp[e1,e3]
 by_cases o3:r.op=3
 ·cases hl:JE r.nm<;>simp only[AF,↓AE,simprocAttr,Bs,o3,b0,bt,hl]
  all_goals simp only[Cy,LD,if_true,hl]
  all_goals by_cases e1:r.tx.toList=[]<;>by_cases e3:r.n=0<;>simp[e1,e3]
 by_cases o16:r.op=16
 ·cases hl:JE r.nm<;>simp only[AF,↓AE,simprocAttr,Bs,o16,b0,bt,hl]
  all_goals simp only[Cy,LD,hl]
  all_goals by_cases n0:0≤r.n<;>by_cases n1:r.n≤9007199254740992<;>by_cases e1:r.tx.toList=[]<;>simp[n0,n1,e1]
 by_cases o17:r.op=17
 ·cases hl:JE r.nm<;>simp only[AF,↓AE,simprocAttr,Bs,o17,b0,bt,hl]
  all_goals simp only[Cy,LD,hl]
  all_goals by_cases n0:0≤r.n<;>by_cases n1:r.n≤9007199254740992<;>by_cases e1:r.tx.toList=[]<;>simp[n0,n1,e1]
 have hF:Cy r.op r.nm r.tx r.n r.len=(LD r.nm&&LD r.tx&&decide (r.n=0)&&(if r.op=4∨r.op=5 then decide (r.len=1)else if 6≤r.op∧r.op≤14 then decide (r.len=2)else decide (r.op=15)&&decide (2≤r.len))):=by
  unfold Cy
  rw[if_neg o1,if_neg o2,if_neg o3,if_neg (by omega)]
 rw[hF]
 clear hF
 by_cases e1:r.nm.toList=[]
 rotate_left
 ·simp only[AF,↓AE,simprocAttr,Bs,eq_false o1,eq_false o2,eq_false o3,eq_false o16,eq_false o17,eq_false e1]
  simp[LD,e1]
 by_cases e2:r.tx.toList=[]
 rotate_left
 ·simp only[AF,↓AE,simprocAttr,Bs,eq_false o1,eq_false o2,eq_false o3,eq_false o16,eq_false o17,e1,eq_false e2]
  simp[LD,e2]
 by_cases e3:r.n=0
 rotate_left
 ·simp only[AF,↓AE,simprocAttr,Bs,eq_false o1,eq_false o2,eq_false o3,eq_false o16,eq_false o17,e1,e2,eq_false e3]
  try simp[LD,e3]
 have hE:(LD r.nm&&LD r.tx&&decide (r.n=0))=true:=by simp[LD,e1,e2,e3]
 rw[hE,Bool.true_and]
 clear hE
 by_cases o4:r.op=4
 ·simp only[AF,↓AE,simprocAttr,Bs,o4,e1,e2,e3,b1]
 by_cases o5:r.op=5
 ·simp only[AF,↓AE,simprocAttr,Bs,o5,e1,e2,e3,b1]
 rw[if_neg (by omega)]
 by_cases hm:6≤r.op∧r.op≤14
 ·rw[if_pos hm]
  obtain h|h|h|h|h|h|h|h|h:r.op=6∨r.op=7∨r.op=8∨r.op=9∨r.op=10∨r.op=11∨r.op=12∨r.op=13∨r.op=14:=by omega
  all_goals simp only[AF,↓AE,simprocAttr,Bs,h,e1,e2,e3,b2]
 rw[if_neg hm]
 have o6:(r.op=6)=False:=eq_false (by omega)
 have o7:(r.op=7)=False:=eq_false (by omega)
 have o8:(r.op=8)=False:=eq_false (by omega)
 have o9:(r.op=9)=False:=eq_false (by omega)
 have o10:(r.op=10)=False:=eq_false (by omega)
 have o11:(r.op=11)=False:=eq_false (by omega)
 have o12:(r.op=12)=False:=eq_false (by omega)
 have o13:(r.op=13)=False:=eq_false (by omega)
 have o14:(r.op=14)=False:=eq_false (by omega)
 by_cases o15:r.op=15
 ·simp only[AF,↓AE,simprocAttr,Bs,o15,e1,e2,e3,k3]
 ·simp only[AF,↓AE,simprocAttr,Bs,eq_false o1,eq_false o2,eq_false o3,eq_false o4,eq_false o5,eq_false o16,eq_false o17,o6,o7,o8,o9,o10,o11,o12,o13,o14,eq_false o15,e1,e2,e3]
  simp[o15]
theorem SK(r:Xr)(htx:r.tx.size≤9223372036854775807)(A_:AH):Ag Tryz.prog 103 #[.agg #[.int .i64 r.op,.string r.nm,.string r.tx,.int .i64 r.n,.slice r.p r.len r.cap]] A_=some (.bool (Cy r.op r.nm r.tx r.n r.len)):=AX (BD (by kernel_rfl) (mW r htx))
set_option maxHeartbeats 4000000
set_option maxRecDepth 20000
mutual
def wX:Xs→Bool
 | .mk op nm tx n args=>Cy op nm tx n args.length&&wL args
def wL:List Xs→Bool
 | []=>true
 |x::l=>wX x&&wL l
end
theorem PW: ∀l:List Xs,wL l=l.all wX
 | []=>by simp[wL]
 |x::l=>by simp[wL,PW l]
inductive SzX:Xs→Prop
 |mk {op n:Int} {nm tx:ByteArray} {args:List Xs}:nm.size≤9223372036854775807→tx.size≤9223372036854775807→(∀x∈args,SzX x)→SzX (.mk op nm tx n args)
theorem mf(A:AH)(op n:Int)(nm tx:ByteArray)(args:List Xs)(p:Option Addr)(cap:Nat)(rs:List Xr)(hl:args.length≤140737488355328)(hrs:rs.length=args.length)(hS:B5 Ba 5 A p rs)(htx:tx.size≤9223372036854775807)(ih: ∀(k:Nat) (x:Xs) (r:Xr),args[k]? =some x→rs[k]? =some r→ ∀B,SubA A B→Ag Tryz.prog 72 #[Bt r] B=some (.bool (wX x))):AK Tryz.prog 72 #[.agg #[.int .i64 op,.string nm,.string tx,.int .i64 n,.slice p args.length cap]] A (fun u_ A_=>u_=.bool (wX (.mk op nm tx n args))∧SubA A A_):=by
 refine AC ⟨Tryz.prog,72,Tryz.f72,19,[0,1,2,4,9,10,11],⟨[],none⟩,[],_⟩ rfl (args:=[_]) Tryz.func72 rfl (by kernel_rfl) Tryz.ntmps72 (by simp) (by kernel_rfl) ?_
 intro ν fr
 have f0:=fr.2 0
 have hv:=SK ⟨op,nm,tx,n,p,args.length,cap⟩ htx
 simp only[]at hv
 have hw:wX (.mk op nm tx n args)=(Cy op nm tx n args.length&&args.all wX):=by rw[wX,PW]
 rw[hw]
 cases hf:Cy op nm tx n args.length with
 |false=>
  rw[hf]at hv
  simp only[AF,↓AE,simprocAttr,fr.2,hv]
 | true=>
  rw[hf]at hv
  simp only[AF,↓AE,simprocAttr,fr.2,hv]
  have dst_:True:=(by simp[]);generalize ν 0=n1 at dst_  f0⊢
  clear fr hv hf hw
  obtain⟨e,l,he,hd,hle,hx⟩: ∃(e:Nat) (l:List Xs),e=0∧l=args.drop e∧e≤args.length∧(true&&args.all wX)=l.all wX:=⟨0,_,rfl,rfl,by omega,rfl⟩
  rw[hx]
  rw[show(11,some (Value.int .i64 0))=(11,some (Value.int .i64 (e:Int))) by rw[he];rfl]
  clear he hx
  induction l generalizing e with
  |nil=>
   obtain⟨hn1,hn2⟩:=drop_nil hd hle
   have lt:((e:Int)<(args.length:Int))=False:=eq_false (by omega)
   refine AR.intro (by kernel_rfl) ?_
   intro ν fr
   simp only[AF,↓AE,simprocAttr,lt]
   exact⟨rfl,SubA.fresh f0 (SubA.refl _)⟩
  | cons x l ihl=>
   obtain⟨ha,hlt,hd',htk⟩:=Be hd
   have lt:((e:Int)<(args.length:Int))=True:=eq_true (by omega)
   have li:((e:Int)<0)=False:=eq_false (by omega)
   have we:IntKind.i64.wrap ((e:Int)+1)=((e+1:Nat):Int):=by rw[AW (by omega) (by omega)];omega
   obtain⟨s,hs⟩: ∃s,rs[e]? =some s:=⟨_,List.getElem?_eq_getElem (by omega)⟩
   obtain⟨bk,off,cs,ty,fr0,hp0,hbk,hcr,hcc⟩:=hS.at hs
   subst hp0
   simp only[Ba]at hcr
   obtain⟨q1,q2⟩:=AU f0 hbk
   refine AR.intro (by kernel_rfl) ?_
   intro ν fr
   have f1:=fr.2 0
   have iv:=fun o=>ih e x s ha hs ((ν 0,o)::(n1,.cells #[.int .i64 op,.string nm,.string tx,.int .i64 n,.slice (some ⟨bk,off,none⟩) args.length cap] 60)::A) (SubA.fresh f1 (SubA.fresh f0 (SubA.refl _)))
   simp only[Bt,Ba]at iv
   cases hw:wX x with
   |true=>
    rw[hw]at iv
    simp only[AF,↓AE,simprocAttr,lt,hbk,hcr,q1,iv,we]
    have hc:(x::l).all wX=l.all wX:=by simp[hw]
    rw[hc]
    exact AR.weak (ihl (e+1) hd' (by omega)) (by simp[Ah,AO]) (SubA.fresh f1 (SubA.refl _))
   |false=>
    rw[hw]at iv
    simp only[AF,↓AE,simprocAttr,lt,hbk,hcr,q1,iv,we]
    exact⟨by simp[hw],SubA.fresh f1 (SubA.fresh f0 (SubA.refl _))⟩
theorem mg(A:AH)(op n:Int)(nm tx:ByteArray)(args:List Xs)(p:Option Addr)(cap:Nat)(rs:List Xr)(hl:args.length≤140737488355328)(hrs:rs.length=args.length)(hS:B5 Ba 5 A p rs)(htx:tx.size≤9223372036854775807)(ih: ∀(k:Nat) (x:Xs) (r:Xr),args[k]? =some x→rs[k]? =some r→ ∀B,SubA A B→Ag Tryz.prog 72 #[Bt r] B=some (.bool (wX x)))(B_:AH)(hB_:SubA A B_):Ag Tryz.prog 72 #[.agg #[.int .i64 op,.string nm,.string tx,.int .i64 n,.slice p args.length cap]] B_=some (.bool (wX (.mk op nm tx n args))):=AX (Aj (by kernel_rfl) (mf A op n nm tx args p cap rs hl hrs hS htx ih) hB_)
theorem uk{A:AH}{t:Xs}{r:Xr}(h:ExR A t r):SzX t→ ∀B,SubA A B→Ag Tryz.prog 72 #[Bt r] B=some (.bool (wX t)):=by
 induction h with
 | @mk op n nm tx args p cap rs h0 h0' h1 h2 h3 ih=>
  rintro(⟨z1,z2,z3⟩) B hB
  exact mg A op n nm tx args p cap rs h0 h1 h2 z2 (fun k x r hx hr C hC=>ih k x r hx hr (z3 x (List.mem_of_getElem? hx)) C hC) B hB
theorem LH{op n:Int}{nm tx:ByteArray}{k:Nat}(h:Cy op nm tx n k=true):nm.size≤16∧tx.size≤100:=by
 have e1: ∀{s:ByteArray},LD s=true→s.size=0:=fun h=>by
  have:_=_:=of_decide_eq_true h
  rw[←AP,this];rfl
 have e2: ∀{s:ByteArray},HU s=true→s.size≤100:=fun h=>by
  unfold HU at h
  simp only[Bool.and_eq_true,decide_eq_true_eq]at h
  exact h.1
 have e3: ∀{s:ByteArray},JE s=true→s.size≤16:=fun h=>by
  unfold JE Bp at h
  simp only[Bool.and_eq_true,decide_eq_true_eq]at h
  exact h.1.2.1
 unfold Cy at h
 split at h
 ·simp only[Bool.and_eq_true]at h
  have:=e1 h.1.1.2;have:=e1 h.1.2;omega
 ·split at h
  ·simp only[Bool.and_eq_true]at h
   have:=e2 h.1.1.1;have:=e1 h.1.1.2;omega
  ·split at h
   ·simp only[Bool.and_eq_true]at h
    have:=e3 h.1.1.1;have:=e1 h.1.1.2;omega
   ·split at h
    ·simp only[Bool.and_eq_true]at h
     have:=e3 h.1.1.1.1;have:=e1 h.1.2;omega
    ·simp only[Bool.and_eq_true]at h
     have:=e1 h.1.1.1;have:=e1 h.1.1.2;omega
end Go.Proofs.YtgmfcdeknaeikaaGreatDoor
