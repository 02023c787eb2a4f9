/-
Fee rules are parsed back from their text; Format.
Conditions: none.
-/
import Derived.Test.YtfphceknmgadgaaGreatDoorQo
import Derived.Test.YtfphceknmgadgaaGreatDoorQh
import Derived.Test.YtfphceknmgadgaaGreatDoorQi
import Derived.Test.YtfphceknmgadgaaGreatDoorQj
import Derived.Test.YtfphceknmgadgaaGreatDoorQn
set_option linter.unusedSimpArgs false
set_option linter.unusedVariables false
namespace Go.Proofs.YtfphceknmgadgaaGreatDoor
open Go.Vm
set_option maxHeartbeats 2000000
set_option maxRecDepth 20000
theorem Hc:type_of% (An @BR (An @Be (An @Bd (An @BF (An @BQ (An @Bf (An @CG (An @BX (An @CX (An @Cn (An @CZ (An @Cp (An @DB (An @Cq (An @CW (An @CD (An @CC (An @Co (An @Bw (An @CE (An @CY (An @CF (An @CH (An @AW (An @AP (An @Av (An @Aw (An @Am (An @BN (An @Ar (An @A7 (An @A8 (An @BA (An @BB (An @BD (An @BH (An @BK (An @Cy (An @AU (An @AR (An @Ab (An @Ac (An @Aq (An @Bh (An @CS (An @Eu (An @CR @CU))))))))))))))))))))))))))))))))))))))))))))))):=⟨@BR,@Be,@Bd,@BF,@BQ,@Bf,@CG,@BX,@CX,@Cn,@CZ,@Cp,@DB,@Cq,@CW,@CD,@CC,@Co,@Bw,@CE,@CY,@CF,@CH,@AW,@AP,@Av,@Aw,@Am,@BN,@Ar,@A7,@A8,@BA,@BB,@BD,@BH,@BK,@Cy,@AU,@AR,@Ab,@Ac,@Aq,@Bh,@CS,@Eu,@CR,@CU⟩
theorem n46: ∀c,c<256→(Ca c=true∨DA c=true)→c≠46:=by decide+kernel
def GD(x:LR):Bool:=Bs x 4 ⟨#[46]⟩
def My(T:List Tk):Prop:= ∀y∈Cg T,GD y=false
theorem My.tl{x:LR}{T:List Tk}(h:My (.x x::T)):GD x=false∧My T:=⟨h x (by simp[Cg]),fun y hy=>h y (by simp[Cg,hy])⟩
theorem My.x{x:LR}{T:List Tk}(h:GD x=false)(g:My T):My (.x x::T):=fun y hy=>by
 simp only[Cg,List.mem_cons]at hy
 rcases hy with rfl|h1
 ·exact h
 ·exact g y h1
theorem My.b{c:UInt8}{T:List Tk}(g:My T):My (.b c::T):=g
theorem My.nil:My []:=fun y hy=>by cases hy
theorem nJ{x:LR}(h:KM x)(hd:GD x=false): ∃c l,Bq x=c::l∧c≠46:=by
 have ne: ∀{c:UInt8},c.toNat≠46→c≠46:=fun h e=>h (by rw[e];rfl)
 rcases h with⟨k,hn,h16,hw,c,l,h1,h2⟩|⟨k,ht,m,hm,hle⟩|⟨k,hn,h100,hl⟩|⟨k,hn,hm⟩
 ·exact⟨c,l,by simp[Bq,k,h1],ne (n46 _ (Dl c) (.inl h2))⟩
 ·cases hd:Lib.decDigits m with
  |nil=>exact absurd hd (J0 m)
  |cons c l=>
   have h1:=Eg m
   rw[hd,DX,Bool.and_eq_true]at h1
   have:=Ct h1.1
   exact⟨c,l,by simp[Bq,k,hm,Lib.itoa,hd],ne (by omega)⟩
 ·exact⟨34,_,by simp[Bq,k];rfl,by decide⟩
 ·rcases hm with hm|hm|⟨c,hm,hc⟩
  ·exact⟨33,[61],by simp[Bq,k,hm],by decide⟩
  ·exact⟨60,[61],by simp[Bq,k,hm],by decide⟩
  ·exact⟨c,[],by simp[Bq,k,hm],fun e=>by
    subst e
    simp[GD,Bs,k,hm,ByteArray.toList_eq]at hd⟩
theorem hd_46: ∀{T:List Tk} {r:List UInt8},My T→Lb T r→r.head? ≠some 46→(Cl T++r).head? ≠some 46
 | [],r,_,_,h=>h
 | .b c::L,r,_,h,_=>by
  have:c.toNat≠46:=n46 _ (Dl c) (.inr h.1)
  simp only[Cl,List.cons_append,List.head?_cons,ne_eq,Option.some.injEq]
  intro e;rw[e]at this;exact this rfl
 | .x x::L,r,hn,h,_=>by
  obtain⟨c,l,e,hc⟩:=nJ h.1 hn.tl.1
  simp only[Cl,e,List.cons_append,List.head?_cons,ne_eq,Option.some.injEq]
  exact hc
theorem SQ(R:List UInt8): ∀l:List UInt8,BW l=l.length→pW true (l++R)=l++pW true R
 | [],_=>rfl
 | c::l,h=>by
  simp only[BW,List.length_cons]at h
  by_cases hc:CA c.toNat=true
  ·rw[if_pos hc]at h
   obtain⟨a1,a2,_,_⟩:=VG _ (Dl c) hc
   rw[List.cons_append,DT (w:=true) _ a1 a2 (by simp),hc,SQ R l (by omega)]
   rfl
  ·rw[if_neg hc]at h;omega
theorem Kp: ∀(l:List UInt8),ED l=true→ ∀R:List UInt8,Ex R→CK (l++R)=l.length
 | [],_,R,h=>by
  rcases h with rfl|⟨c,m,rfl,h⟩
  ·rfl
  ·have:BJ c.toNat=false:=by
    cases hd:BJ c.toNat with
    |false=>rfl
    |true=>simp[CA,hd]at h
   simp[CK,this]
 |c::l,ha,R,h=>by
  rw[DX,Bool.and_eq_true]at ha
  simp only[List.cons_append,CK,ha.1,if_true,Kp l ha.2 R h,List.length_cons]
theorem fZ{l R:List UInt8}(hl:ED l=true)(hs:Ex R)(h:R.head? ≠some 46):JJ (l++R)=none:=by
 unfold JJ
 rw[Kp l hl R hs,List.drop_left]
 cases R with
 |nil=>rfl
 |cons c m=>
  have:c≠46:=fun e=>h (by rw[e];rfl)
  simp[this]
theorem pw_lex{x:LR}(hx:KM x){R:List UInt8}(hs:Yc x R)(h46:R.head? ≠some 46)(w:Bool): ∃w',pW w (Bq x++R)=Bq x++pW w' R:=by
 rcases hx with⟨k,hn,h16,hw,c,l,h1,h2⟩|⟨k,ht,m,hm,hle⟩|⟨k,hn,h100,hl⟩|⟨k,hn,hm⟩
 ·have hf:Bq x=c::l:=by simp[Bq,k,h1]
  rw[hf]
  obtain⟨n1,n2,_,n4,_,_⟩:=HN _ (Dl c) h2
  have hwc:CA c.toNat=true:=by simp[CA,h2]
  rw[h1]at hw
  simp only[BW,hwc,if_true,List.length_cons]at hw
  refine⟨true, ?_⟩
  rw[List.cons_append,DT _ n4 n2 (by rw[n1];simp),hwc,SQ R l (by omega)]
  rfl
 ·have hf:Bq x=Lib.decDigits m:=by simp[Bq,k,hm,Lib.itoa]
  rw[hf]
  have hd:=Eg m
  have hst:=hs.1 (.inr k)
  have hfr:=fZ hd hst h46
  cases hq:Lib.decDigits m with
  |nil=>exact absurd hq (J0 m)
  | cons c l=>
   rw[hq]at hd hfr
   have hwl:=N8 _ hd
   rw[DX,Bool.and_eq_true]at hd
   obtain⟨_,n2,_,n4,_,_,hwc⟩:=Fo _ (Dl c) hd.1
   simp only[BW,hwc,if_true,List.length_cons]at hwl
   refine⟨true, ?_⟩
   have e:pW w (c::(l++R))=c::pW true (l++R):=by
    rw[EC,if_neg (show c≠35 from Je n4 (by decide)),if_neg (show c≠34 from Je n2 (by decide))]
    split
    ·rw[show c::(l++R)=(c::l)++R from rfl,hfr]
    ·rw[hwc]
   rw[List.cons_append,e,SQ R l (by omega)]
   rfl
 ·have hf:Bq x=34::(x.t.toList++[34]):=by simp[Bq,k]
  rw[hf]
  obtain⟨m1,m2⟩:=Nf hl
  have hu:Du 34 ((x.t.toList++[34])++R)=x.t.toList.length+1:=by
   cases R with
   |nil=>rw[List.append_nil];exact m2
   |cons y r=>rw[Sk y r m1];exact m2
  refine⟨false, ?_⟩
  have hll:(x.t.toList++[34]).length=x.t.toList.length+1:=by simp
  rw[List.cons_append,EC,if_neg (by decide),if_pos rfl,hu,←hll,List.take_left,List.drop_left]
  rfl
 ·rcases hm with hm|hm|⟨c,hm,hc⟩
  ·have hf:Bq x=[33,61]:=by simp[Bq,k,hm]
   rw[hf]
   refine⟨false, ?_⟩
   show pW w (33::61::R)=_
   rw[DT _ (by decide) (by decide) (fun h=>absurd h.1 (by decide)),DT _ (by decide) (by decide) (fun h=>absurd h.1 (by decide))]
   rfl
  ·have hf:Bq x=[60,61]:=by simp[Bq,k,hm]
   rw[hf]
   refine⟨false, ?_⟩
   show pW w (60::61::R)=_
   rw[DT _ (by decide) (by decide) (fun h=>absurd h.1 (by decide)),DT _ (by decide) (by decide) (fun h=>absurd h.1 (by decide))]
   rfl
  ·have hf:Bq x=[c]:=by simp[Bq,k,hm]
   rw[hf]
   obtain⟨n1,n2,n3,n4⟩:=rP _ (Dl c) hc
   refine⟨false, ?_⟩
   show pW w (c::R)=_
   rw[DT _ n3 n4 (by rw[n1];simp),n2]
   rfl
theorem WK: ∀(T:List Tk) (r:List UInt8) (w:Bool),My T→Lb T r→r.head? ≠some 46→ ∃w',pW w (Cl T++r)=Cl T++pW w' r
 | [],r,w,_,_,_=>⟨w,rfl⟩
 | .b c::L,r,w,hn,h,h46=>by
  obtain⟨b1,b2,b3,b4⟩:=Lv _ (Dl c) h.1
  obtain⟨w',e⟩:=WK L r false hn h.2 h46
  refine⟨w', ?_⟩
  simp only[Cl,List.cons_append]
  rw[DT _ b3 b4 (by rw[b1];simp),b2,e]
 | .x x::L,r,w,hn,h,h46=>by
  obtain⟨w1,e1⟩:=pw_lex h.1 h.2.1 (hd_46 hn.tl.2 h.2.2 h46) w
  obtain⟨w',e⟩:=WK L r w1 hn.tl.2 h.2.2 h46
  refine⟨w', ?_⟩
  simp only[Cl,List.append_assoc]
  rw[e1,e]
theorem pw_tkb(T:List Tk)(c:UInt8)(r:List UInt8)(w:Bool)(hn:My T)(h:Lb T (c::r))(hc:DA c.toNat=true):pW w (Cl T++c::r)=Cl T++c::pW false r:=by
 have hne:c.toNat≠46:=n46 _ (Dl c) (.inr hc)
 obtain⟨w',e⟩:=WK T (c::r) w hn h (by simp only[List.head?_cons,ne_eq,Option.some.injEq];intro e;rw[e]at hne;exact hne rfl)
 obtain⟨b1,b2,b3,b4⟩:=Lv _ (Dl c) hc
 rw[e,DT _ b3 b4 (by rw[b1];simp),b2]
def KS:Nat→List Tk→List ((Int×ByteArray×Int)×Nat)
 |_,[]=>[]
 |i,.x r::L=>(D6 r,i)::KS (i+(Bq r).length) L
 |i,.b _::L=>KS (i+1) L
theorem R2: ∀(A B:List Tk) (i:Nat),KS i (A++B)=KS i A++KS (i+(Cl A).length) B
 | [],B,i=>by simp[KS,Cl]
 | .x r::A,B,i=>by simp only[List.cons_append,KS,Cl,R2 A B,List.length_append,Nat.add_assoc]
 | .b c::A,B,i=>by simp only[List.cons_append,KS,Cl,R2 A B,List.length_cons];rw[show i+1+(Cl A).length=i+((Cl A).length+1) by omega]
theorem M8: ∀(T:List Tk) (i:Nat),(KS i T).length=ln T
 | [],i=>rfl
 | .x r::A,i=>by simp only[KS,List.length_cons,M8 A];simp[ln,Cg]
 | .b c::A,i=>by simp only[KS,M8 A];simp[ln,Cg]
theorem OH(s:ByteArray): ∀(L:List Tk) (f i:Nat),s.size<i+Cs false (s.toList.drop i)+f→i≤s.size→Lb L []→s.toList.drop i=Cl L→ ∃K,B8 s f (i+Cs false (s.toList.drop i))=(0,0,K++[Es s])∧K.map (La 0)=KS i L
 | [],f,i,h,hi,_,hd=>by
  have hn:i=s.size:=by
   have:=congrArg List.length hd
   rw[List.length_drop,Ah]at this
   simp[Cl]at this;omega
  rw[hd]at h⊢
  simp only[Cl,Cs,Nat.add_zero]at h⊢
  cases f with
  |zero=>omega
  |succ f=>exact⟨[],by rw[EU f (by omega)];rfl,rfl⟩
 | .b c::L,f,i,h,hi,⟨hc,hw⟩,hd=>by
  obtain⟨hp,_,hl',hsl,hb⟩:=Ck hd
  have h35:c.toNat≠35:=fun e=>by rw[e]at hc;exact absurd hc (by decide)
  have hk:Cs false (s.toList.drop i)=1+Cs false (s.toList.drop (i+1)):=by
   rw[hd,hl']
   simp only[Cl,Cs,hc,h35,Bool.or_true,Bool.true_or,decide_false,Bool.or_false,Bool.false_and,if_true,Bool.false_or]
   omega
  rw[hk]at h⊢
  rw[show i+(1+Cs false (s.toList.drop (i+1)))=i+1+Cs false (s.toList.drop (i+1)) by omega]
  exact OH s L f (i+1) (by omega) (by omega) hw hl'
 | .x r::L,f,i,h,hi,⟨wx,ws,wL⟩,hd=>by
  rw[List.append_nil]at ws
  have hr:s.toList.drop i=Bq r++Cl L:=hd
  have hk:Cs false (s.toList.drop i)=0:=by rw[hr];exact Y6 wx _
  have hlex:=QH wx hr ws
  have hpos:0<(Bq r).length:=by obtain⟨c,l,e,_⟩:=Lt wx;rw[e];simp
  have hlen:=congrArg List.length hr
  rw[List.length_drop,Ah,List.length_append]at hlen
  have hd2:s.toList.drop (i+(Bq r).length)=Cl L:=by rw[←List.drop_drop,hr];simp
  rw[hk]at h⊢
  rw[Nat.add_zero]at h⊢
  cases f with
  |zero=>omega
  |succ f=>
   have hk2:=Fd false (s.toList.drop (i+(Bq r).length))
   obtain⟨K,k1,k2⟩:=OH s L f (i+(Bq r).length) (by omega) (by omega) wL hd2
   rw[Ef f (by omega) (by rw[hlex]) (j:=i+(Bq r).length+Cs false (s.toList.drop (i+(Bq r).length))) (by rw[hlex]),k1,hlex]
   exact⟨⟨r.k,r.t,r.n,i,i+(Bq r).length,0⟩::K,rfl,by simp only[List.map_cons,k2,KS];rfl⟩
theorem cB(L:List Tk)(h:Lb L [])(hl:(Cl L).length≤4000): ∃K,AV (bs (Cl L))=(0,0,K++[Es (bs (Cl L))])∧K.map (La 0)=KS 0 L:=by
 have hs:=Ao (Cl L)
 unfold AV
 rw[if_neg (by omega)]
 have:=OH (bs (Cl L)) L ((bs (Cl L)).size+1) 0 (by omega) (by omega) h (by rw[BS,List.drop_zero])
 rw[List.drop_zero,Nat.zero_add]at this
 exact this
def TY(L:List LR)(i:Nat)(X:List ((Int×ByteArray×Int)×Nat)):Prop:= ∀(j:Nat) (x:(Int×ByteArray×Int)×Nat),X[j]? =some x→D6 (Bp L (i+j))=x.1∧ET L (i+j)=x.2
theorem TY.app{L:List LR}{i:Nat}{X Y:List ((Int×ByteArray×Int)×Nat)}(h:TY L i (X++Y)):TY L i X∧TY L (i+X.length) Y:=by
 refine⟨fun j x hx=>h j x (by rw[List.getElem?_append_left (List.getElem?_eq_some_iff.1 hx).1];exact hx),fun j x hx=> ?_⟩
 have:=h (X.length+j) x (by rw[List.getElem?_append_right (by omega),Nat.add_sub_cancel_left];exact hx)
 rwa [←Nat.add_assoc]at this
theorem TY.hd{L:List LR}{i:Nat}{x:(Int×ByteArray×Int)×Nat}{X:List ((Int×ByteArray×Int)×Nat)}(h:TY L i (x::X)):(D6 (Bp L i)=x.1∧ET L i=x.2)∧TY L (i+1) X:=by
 refine⟨h 0 x rfl,fun j y hy=> ?_⟩
 have:=h (j+1) y hy
 rwa [show i+(j+1)=i+1+j by omega]at this
theorem TY.of{L K:List LR}{e:LR}{X:List ((Int×ByteArray×Int)×Nat)}(hL:L=K++[e])(hK:K.map (La 0)=X):TY L 0 X:=fun j x hx=>by
 rw[←hK,List.getElem?_map]at hx
 cases hk:K[j]? with
 |none=>rw[hk]at hx;cases hx
 |some y=>
  rw[hk]at hx
  have hj:=(List.getElem?_eq_some_iff.1 hk).1
  have hy:Bp L (0+j)=y:=F6 (by rw[hL,Nat.zero_add,List.getElem?_append_left hj];exact hk)
  unfold ET
  rw[hy]
  simp only[Option.map_some,Option.some.injEq]at hx
  rw[←hx]
  exact⟨rfl,rfl⟩
def RB(T:List Tk):Prop:= ∀y∈Cg T,y.k≠0∧Ed y=false∧GD y=false
def HdX(T:List Tk):Prop:= ∃y l,T=.x y::l
theorem RB.app{A B:List Tk}(h:RB A)(g:RB B):RB (A++B):=fun y hy=>by
 rw[ER]at hy
 rcases List.mem_append.1 hy with h1|h1
 ·exact h y h1
 ·exact g y h1
theorem RB.x{x:LR}{T:List Tk}(h:x.k≠0∧Ed x=false∧GD x=false)(g:RB T):RB (.x x::T):=fun y hy=>by
 rcases List.mem_cons.1 hy with rfl|h1
 ·exact h
 ·exact g y h1
theorem RB.b{c:UInt8}{T:List Tk}(g:RB T):RB (.b c::T):=g
theorem RB.nil:RB []:=fun y hy=>by cases hy
theorem RB.d{T:List Tk}(h:RB T):My T:=fun y hy=>(h y hy).2.2
theorem Py(t:ByteArray):(EN t).k≠0∧Ed (EN t)=false∧GD (EN t)=false:=by simp[EN,Ed,GD,Bs]
theorem YK(n:Int):(PH n).k≠0∧Ed (PH n)=false∧GD (PH n)=false:=by simp[PH,Ed,GD,Bs]
theorem nc_tx(t:ByteArray):(cu t).k≠0∧Ed (cu t)=false∧GD (cu t)=false:=by simp[cu,Ed,GD,Bs]
theorem YR{t:ByteArray}(h:t.toList≠[58])(h2:t.toList≠[46]):(Dp t).k≠0∧Ed (Dp t)=false∧GD (Dp t)=false:=by
 refine⟨by simp[Dp], ?_, ?_⟩
 ·simp only[Dp,Ed,Bs,ml]
  simpa using h
 ·simp only[Dp,GD,Bs,ml]
  simpa using h2
theorem jV:(Dp ⟨#[40]⟩).k≠0∧Ed (Dp ⟨#[40]⟩)=false∧GD (Dp ⟨#[40]⟩)=false:=YR (by rw[ml];decide) (by rw[ml];decide)
theorem iQ:(Dp ⟨#[41]⟩).k≠0∧Ed (Dp ⟨#[41]⟩)=false∧GD (Dp ⟨#[41]⟩)=false:=YR (by rw[ml];decide) (by rw[ml];decide)
theorem sG:(Dp ⟨#[44]⟩).k≠0∧Ed (Dp ⟨#[44]⟩)=false∧GD (Dp ⟨#[44]⟩)=false:=YR (by rw[ml];decide) (by rw[ml];decide)
theorem OQ{k:Int}{x:Xs}(h:RB (kX x)):RB (Dn k x):=by
 unfold Dn cz
 split
 ·exact h
 ·exact .x jV (h.app (.x iQ .nil))
theorem sJ{k:Int}{x:Xs}(h:HdX (kX x)):HdX (Dn k x):=by
 unfold Dn cz
 split
 ·exact h
 ·exact⟨_,_,rfl⟩
theorem HdX.app{A B:List Tk}(h:HdX A):HdX (A++B):=by
 obtain⟨y,l,rfl⟩:=h
 exact⟨y,l++B,rfl⟩
theorem nc_sy{op:Int}(h:6≤op∧op≤14):(KP op).k≠0∧Ed (KP op)=false∧GD (KP op)=false:=by
 have:op=6∨op=7∨op=8∨op=9∨op=10∨op=11∨op=12∨op=13∨op=14:=by omega
 rcases this with rfl|rfl|rfl|rfl|rfl|rfl|rfl|rfl|rfl<;>decide+kernel
theorem nocX{x:Xs}(h:WrX x):RB (kX x)∧HdX (kX x):=by
 induction h with
 |num h1 h2=>rw[XK];exact⟨.x (YK _) .nil,_,_,rfl⟩
 |txt h=>rw[Wu];exact⟨.x (nc_tx _) .nil,_,_,rfl⟩
 |nam h=>rw[W0];exact⟨.x (Py _) .nil,_,_,rfl⟩
 | @use op n t h h1 h2 h3=>
  rw[Wn h]
  exact⟨.x (Py _) (.x jV (.x (Py _) (.x sG (.b (.x (YK _) (.x iQ .nil)))))),_,_,rfl⟩
 | @one op a h ha ih=>
  rcases h with rfl|rfl
  ·rw[XN];exact⟨.x (Py _) (.b (OQ ih.1)),_,_,rfl⟩
  ·rw[W5];exact⟨.x (YR (by rw[ml];decide) (by rw[ml];decide)) (OQ ih.1),_,_,rfl⟩
 | @two op a b h ha hb iha ihb=>
  rw[Wh h]
  exact⟨(OQ iha.1).app (.b (.x (nc_sy h) (.b (OQ ihb.1)))),(sJ iha.2).app⟩
 | @inn a b l ha hb hl iha ihb ihl=>
  have hR: ∀l:List Xs,(∀x∈l,RB (kX x))→RB (l.flatMap fun x=>KN:: .b 32::Dn 4 x):=by
   intro l
   induction l with
   |nil=>intro _;exact .nil
   |cons y l ih=>
    intro h
    rw[List.flatMap_cons]
    exact RB.app (.x sG (.b (OQ (h y (by simp))))) (ih fun z hz=>h z (by simp[hz]))
  rw[XG]
  refine⟨(OQ iha.1).app (.b (.x (Py _) (.b (.x jV ?_)))),(sJ iha.2).app⟩
  exact((OQ ihb.1).app (hR l fun y hy=>(ihl y hy).1)).app (.x iQ .nil)
end Go.Proofs.YtfphceknmgadgaaGreatDoor
namespace Go.Proofs.YtfphceknmgadgaaGreatDoor
open Go.Vm
set_option maxHeartbeats 4000000
set_option maxRecDepth 20000
def Dz(w:List UInt8)(n:Int):List UInt8:=if n=0 then []else 32::(w++32::Lib.itoa n)
def Hj(n:Int):Bool:=decide (0≤n)&&decide (n≤9007199254740992)
def FG(u:Fu):List UInt8:=[102,101,101,32]++u.nm.toList++[32,119,104,101,110,32]++tX u.w++[58,32]++Jh u.bps
def GH(u:Fu):List UInt8:=FG u++Dz [43] u.fx++Dz [109,105,110] u.mn++Dz [109,97,120] u.mx++[59,10]
def Jb(u:Fu):Bool:=wX u.w&&(decide (0≤u.bps)&&(decide (u.bps≤10000)&&(Hj u.fx&&(Hj u.mn&&Hj u.mx))))
def Gn(s:ByteArray):Bool:= !(mS s)&&DS s
def Gu(dn:List Fu)(u:Fu):Bool:=Gn u.nm&&(!(D4 u.nm dn)&&Jb u)
def HJ(dn:List Fu):List Fu→Bool
 | []=>true
 |u::l=>Gu dn u&&HJ (dn++[u]) l
def R8(us:List Fu):Bool:=decide (us.length≤64)&&HJ [] us
def E6(us:List Fu):List UInt8:=us.flatMap GH
def EK(us:List Fu):List UInt8:=if R8 us=true then E6 us else []
def d3(m:Nat):List UInt8:=if m<10 then [UInt8.ofNat (48+m)]else if m<100 then [UInt8.ofNat (48+m / 10),UInt8.ofNat (48+m % 10)]else [49,48,48]
theorem gi{m:Nat}(h:m≤100):Lib.decDigits m=d3 m:=by
 unfold d3
 split
 ·rename_i h1;exact Lib.decDigits_one h1
 split
 ·rename_i h1 h2;exact Lib.decDigits_two h1 h2
 ·have:m=100:=by omega
  subst this
  rw[Lib.decDigits,dif_neg (by decide),Lib.decDigits_two (by decide) (by decide)]
  rfl
def pcD(n:Nat):List UInt8:=d3 (n / 100)++((if n % 100=0 then []else 46::(d3 (n % 100 / 10)++(if n % 10=0 then []else d3 (n % 10))))++[37])
theorem JE(m:Nat):Lib.itoa (m:Int)=Lib.decDigits m:=by unfold Lib.itoa;rw[if_neg (by omega),Int.toNat_natCast]
theorem pcT_D{n:Nat}(h:n≤10000):Jh (n:Int)=pcD n:=by
 unfold Jh pcD
 have e1:(n:Int) / 100=((n / 100:Nat):Int):=by omega
 have e2:(n:Int) % 100 / 10=((n % 100 / 10:Nat):Int):=by omega
 have e3:(n:Int) % 10=((n % 10:Nat):Int):=by omega
 have e4:((n:Int) % 100=0)=(n % 100=0):=propext (by omega)
 have e5:(((n % 10:Nat):Int)=0)=(n % 10=0):=propext (by omega)
 rw[e1,e2,e3,JE,JE,JE,gi (by omega),gi (by omega),gi (by omega)]
 simp only[e4,e5]
def frD(b:Nat):Option (List UInt8):=if b=0 then none else some (d3 (b / 10)++(if b % 10=0 then []else d3 (b % 10)))
theorem Ry(n:Nat):pcD n=(d3 (n / 100)++GS (frD (n % 100)))++[37]:=by
 unfold pcD frD
 have e:n % 100 % 10=n % 10:=by omega
 rw[e]
 split
 ·simp[GS]
 ·simp[GS]
theorem w3_ok: ∀a,a<101→gN (d3 a)=true∧(d3 a).length≤3∧D9 (d3 a)=a∧(46:UInt8)∉d3 a:=by decide+kernel
theorem f3_ok: ∀b,b<100→aU (frD b)=true∧R6 (frD b)=b:=by decide+kernel
theorem VS: ∀(w:List UInt8) (f:Option (List UInt8)),(46:UInt8)∉w→FQ (w++GS f)=(w,f)
 | [],none,_=>rfl
 | [],some f,_=>by simp[GS,FQ]
 |c::w,f,h=>by
  simp only[List.mem_cons,not_or]at h
  rw[List.cons_append,FQ,if_neg (fun e=>h.1 e.symm),VS w f h.2]
theorem pp_pc{n:Int}(h0:0≤n)(h1:n≤10000):YS (Jh n)=some n:=by
 have e0:n=((n.toNat:Nat):Int):=by omega
 generalize n.toNat=m at e0
 subst e0
 have hm:m≤10000:=by omega
 obtain⟨a1,a2,a3,a4⟩:=w3_ok (m / 100) (by omega)
 obtain⟨b1,b2⟩:=f3_ok (m % 100) (by omega)
 have h:Nd (pcD m)=((m:Int),0):=by
  rw[Yw (by rw[Ry];simp) (by rw[Ry];simp),Ry,List.dropLast_concat,VS _ _ a4]
  unfold Wy
  simp only
  rw[if_neg (by rw[a1];simp),if_neg (by rw[b1];simp),if_neg (by omega),a3,b2,if_neg (by omega)]
  simp only[Prod.mk.injEq,and_true]
  omega
 rw[pcT_D hm]
 unfold YS
 rw[h];rfl
end Go.Proofs.YtfphceknmgadgaaGreatDoor
namespace Go.Proofs.YtfphceknmgadgaaGreatDoor
open Go.Vm
set_option maxHeartbeats 2000000
set_option maxRecDepth 20000
def whB:ByteArray:=⟨#[119,104,101,110]⟩
def Ee(w:LR)(n:Int):List Tk:=if n=0 then []else [.b 32,.x w,.b 32,.x (PH n)]
def GJ(u:Fu):List Tk:=Ee (Dp ⟨#[43]⟩) u.fx++(Ee (EN Gl) u.mn++(Ee (EN Gp) u.mx++[.x (Dp ⟨#[59]⟩)]))
def Jz(u:Fu):List Tk:=[.x (EN G9),.b 32,.x (EN u.nm),.b 32,.x (EN whB),.b 32]
def HH(u:Fu):List Tk:=[.x (Dp ⟨#[58]⟩),.b 32,.x (PH (u.bps / 100))]
def G1(u:Fu):List Tk:=.x (Dp ⟨#[37]⟩)::GJ u
def Eh(n:Int):List UInt8:=if n % 100=0 then []else 46::(Lib.itoa (n % 100 / 10)++(if n % 10=0 then []else Lib.itoa (n % 10)))
def Sf(u:Fu)(k:Nat):List Tk:=Jz u++(kX u.w++(HH u++(List.replicate k (.b 32)++G1 u)))
def FV(u:Fu):List UInt8:=Cl (Jz u)++(tX u.w++(Cl (HH u)++(Eh u.bps++Cl (G1 u))))
theorem lD(w:LR)(n:Int):Cl (Ee w n)=Dz (Bq w) n:=by
 unfold Ee Dz
 split
 ·rfl
 ·simp[Cl,FT]
theorem dt(u:Fu):GH u=FV u++[10]:=by
 simp only[GH,FG,FV,Jz,HH,G1,GJ,Jh,Eh,Cl,Dr,HW,C5,FT,lD,ml,G9,whB,Gl,Gp]
 simp
theorem OO(u:Fu)(k:Nat):Cl (Sf u k)=Cl (Jz u)++(tX u.w++(Cl (HH u)++(List.replicate k 32++Cl (G1 u)))):=by
 have h: ∀k:Nat,Cl (List.replicate k (.b 32))=List.replicate k 32:=fun k=>by
  induction k with
  |zero=>rfl
  |succ k ih=>simp only[List.replicate_succ,Cl,ih]
 simp only[Sf,Dr,GM,h]
theorem Gj(l:List UInt8):Ex (32::l):=EL (by decide) l
theorem Wz{w:LR}(hw:KM w)(hs: ∀r,Yc w (32::r)){n:Int}(h:Hj n=true){r:List UInt8}(hr:Ex r):Lb (Ee w n) r∧Ex (Cl (Ee w n)++r):=by
 simp only[Hj,Bool.and_eq_true,decide_eq_true_eq]at h
 unfold Ee
 split
 ·exact⟨trivial,hr⟩
 ·exact⟨⟨by decide,hw,hs _,by decide,Yg h.1 h.2,az _ hr,trivial⟩,Gj _⟩
theorem ug:KM (EN Gl):=Gv (by decide+kernel)
theorem wf_max:KM (EN Gp):=Gv (by decide+kernel)
theorem kc{u:Fu}(h1:Hj u.fx=true)(h2:Hj u.mn=true)(h3:Hj u.mx=true):Lb (GJ u) []∧Ex (Cl (GJ u)):=by
 have hc:Lb [Tk.x (Dp ⟨#[59]⟩)] []:=⟨Fx (by decide+kernel),Fz (by rw[ml];decide) _,trivial⟩
 have ec:Cl [Tk.x (Dp ⟨#[59]⟩)]=[59]:=by simp[Cl,C5,ml]
 obtain⟨a1,a2⟩:=Wz wf_max (fun r=>Gc _ (Gj r)) h3 (r:=[59]) (EL (by decide) _)
 obtain⟨b1,b2⟩:=Wz ug (fun r=>Gc _ (Gj r)) h2 a2
 obtain⟨c1,c2⟩:=Wz (w:=Dp ⟨#[43]⟩) (Fx (by decide+kernel)) (fun r=>Fz (by rw[ml];decide) _) h1 b2
 unfold GJ
 refine⟨?_, ?_⟩
 ·rw[Di,Di,Di]
  simp only[Dr,ec,List.append_nil]at*
  exact⟨c1,b1,a1,hc⟩
 ·simp only[Dr,ec];exact c2
theorem eX: ∀(k:Nat) {T:List Tk} {r:List UInt8},Lb T r→Lb (List.replicate k (.b 32)++T) r
 |0,T,r,h=>h
 |k+1,T,r,h=>⟨by decide,eX k h⟩
theorem jh{s:ByteArray}(h:Gn s=true):KM (EN s):=by
 unfold Gn at h
 simp only[Bool.and_eq_true]at h
 exact Gv h.2
theorem JM{u:Fu}(h:Jb u=true):wX u.w=true∧0≤u.bps∧u.bps≤10000∧Hj u.fx=true∧Hj u.mn=true∧Hj u.mx=true:=by
 unfold Jb at h
 simpa only[Bool.and_eq_true,decide_eq_true_eq]using h
theorem ig: ∀(k:Nat) {r:List UInt8},Ex r→Ex (List.replicate k 32++r)
 |0,r,h=>h
 |k+1,r,h=>by rw[List.replicate_succ];exact Gj _
theorem XL{u:Fu}(hn:Gn u.nm=true)(hw:Jb u=true)(k:Nat):Lb (Sf u k) []:=by
 obtain⟨w1,w2,w3,w4,w5,w6⟩:=JM hw
 obtain⟨o1,o2⟩:=kc w4 w5 w6
 have he:Lb (G1 u) []:=⟨Fx (by decide+kernel),Fz (by rw[ml];decide) _,o1⟩
 have es:Ex (Cl (G1 u)++[]):=by
  rw[List.append_nil]
  have:Cl (G1 u)=37::Cl (GJ u):=by simp[G1,Cl,C5,ml]
  rw[this];exact EL (by decide) _
 have hb: ∀k:Nat,Cl (List.replicate k (.b 32))=List.replicate k 32:=fun k=>by
  induction k with
  |zero=>rfl
  |succ k ih=>simp only[List.replicate_succ,Cl,ih]
 unfold Sf
 rw[Di]
 refine⟨⟨Gv (by decide+kernel),Gc _ (Gj _),by decide,jh hn,Gc _ (Gj _),by decide,Gv (by decide+kernel),Gc _ (Gj _),by decide,trivial⟩, ?_⟩
 rw[Di]
 refine⟨okX (Lj _ w1) _ ?_, ?_⟩
 ·have: ∀r,Cl (HH u++r)=58::32::(Lib.itoa (u.bps / 100)++Cl r):=fun r=>by simp[HH,Cl,C5,FT,ml]
  rw[this]
  exact EL (by decide) _
 rw[Di]
 refine⟨⟨Fx (by decide+kernel),Fz (by rw[ml];decide) _,by decide,Yg (by omega) (by omega),az _ ?_,trivial⟩,eX k he⟩
 simp only[Cl,List.nil_append]
 rw[Dr,hb,List.append_assoc]
 exact ig k es
theorem GZ{A B:List Tk}(h:My A)(g:My B):My (A++B):=fun y hy=>by
 rw[ER]at hy
 rcases List.mem_append.1 hy with h1|h1
 ·exact h y h1
 ·exact g y h1
theorem Nt(t:ByteArray):GD (EN t)=false:=(Py t).2.2
theorem Sm{w:LR}(h:GD w=false)(n:Int):My (Ee w n):=by
 unfold Ee
 split
 ·exact .nil
 ·exact .b (.x h (.b (.x (YK _).2.2 .nil)))
theorem OM{t:ByteArray}(h:t.toList≠[46]):GD (Dp t)=false:=by simpa[GD,Bs,Dp,ml]using h
theorem X4(u:Fu):My (G1 u):=
 .x (OM (by rw[ml];decide)) (GZ (Sm (OM (by rw[ml];decide)) _) (GZ (Sm (Nt _) _) (GZ (Sm (Nt _) _) (.x (OM (by rw[ml];decide)) .nil))))
theorem Zm(u:Fu):My (Jz u):=.x (Nt _) (.b (.x (Nt _) (.b (.x (Nt _) (.b .nil)))))
theorem oR(u:Fu):My (HH u):=.x (OM (by rw[ml];decide)) (.b (.x (YK _).2.2 .nil))
theorem YY{T:List Tk}(h:My T): ∀k:Nat,My (List.replicate k (.b 32)++T)
 |0=>h
 |k+1=>.b (YY h k)
end Go.Proofs.YtfphceknmgadgaaGreatDoor
namespace Go.Proofs.YtfphceknmgadgaaGreatDoor
open Go.Vm
set_option maxHeartbeats 2000000
set_option maxRecDepth 20000
theorem nK{n:Int}(h0:0≤n)(h1:n≤10000)(hz:Eh n≠[])(m:Nat)(r:List UInt8):JJ (Lib.decDigits m++(Eh n++37::r))=some ((Lib.decDigits m).length,(Eh n).length):=by
 unfold Eh at hz⊢
 have hne: ¬n % 100=0:=fun e=>hz (if_pos e)
 rw[if_neg hne]
 have hd: ∃f,(Lib.itoa (n % 100 / 10)++(if n % 10=0 then []else Lib.itoa (n % 10)))=f∧ED f=true∧f≠[]:=by
  refine⟨_,rfl, ?_, ?_⟩
  ·have e1:Lib.itoa (n % 100 / 10)=Lib.decDigits (n % 100 / 10).toNat:=by unfold Lib.itoa;rw[if_neg (by omega)]
   have e2:Lib.itoa (n % 10)=Lib.decDigits (n % 10).toNat:=by unfold Lib.itoa;rw[if_neg (by omega)]
   have d1:=Eg (n % 100 / 10).toNat
   have d2:=Eg (n % 10).toNat
   rw[e1]
   split
   ·rw[List.append_nil];exact d1
   ·rw[e2]
    unfold ED at d1 d2⊢
    rw[List.all_append,d1,d2];rfl
  ·have:=R3 (n % 100 / 10)
   simp[this]
 obtain⟨f,e,hf,hfn⟩:=hd
 rw[e]
 have hp:Ex (37::r):=EL (by decide) _
 have h46:Ex (46::(f++37::r)):=EL (by decide) _
 have e1:=Kp _ (Eg m) _ h46
 have e2:=Kp f hf (37::r) hp
 have hl:f.length≠0:=fun e=>hfn (List.eq_nil_of_length_eq_zero e)
 unfold JJ
 rw[List.cons_append,e1,List.drop_left]
 simp only[if_true]
 rw[e2,if_neg hl,List.drop_left]
 simp
theorem Xm{u:Fu}(hn:Gn u.nm=true)(hw:Jb u=true):dO (FV u)=Cl (Sf u (Eh u.bps).length):=by
 obtain⟨w1,w2,w3,w4,w5,w6⟩:=JM hw
 have hx:=(nocX (Lj _ w1)).1.d
 rw[W9]
 by_cases hz:Eh u.bps=[]
 ·have e:FV u=Cl (Sf u (Eh u.bps).length):=by rw[OO,FV,hz];rfl
  rw[e]
  obtain⟨w',h⟩:=WK (Sf u (Eh u.bps).length) [] false (GZ (Zm u) (GZ hx (GZ (oR u) (YY (X4 u) _)))) (XL hn hw _) (by simp)
  rw[List.append_nil,Gt,List.append_nil]at h
  exact h
 ·have hbps:Lib.itoa (u.bps / 100)=Lib.decDigits (u.bps / 100).toNat:=by unfold Lib.itoa;rw[if_neg (by omega)]
  obtain⟨m,hm⟩: ∃m,(u.bps / 100).toNat=m:=⟨_,rfl⟩
  rw[hm]at hbps
  have hend:Cl (G1 u)=37::Cl (GJ u):=by simp[G1,Cl,C5,ml]
  have hA:Cl (Jz u)++(tX u.w++(Cl (HH u)++(Eh u.bps++Cl (G1 u))))=Cl (Jz u++(kX u.w++[.x (Dp ⟨#[58]⟩)]))++32::(Lib.decDigits m++(Eh u.bps++37::Cl (GJ u))):=by
   simp only[Dr,GM,HH,Cl,C5,FT,ml,hend,hbps]
   simp
  have hok:=XL hn hw 0
  have hsp:Sf u 0=(Jz u++(kX u.w++[.x (Dp ⟨#[58]⟩)]))++(.b 32:: .x (PH (u.bps / 100))::G1 u):=by simp[Sf,HH]
  rw[hsp,Di]at hok
  have hfr:=nK w2 w3 hz m (Cl (GJ u))
  rw[FV,hA,pw_tkb _ 32 _ false (GZ (Zm u) (GZ hx (.x (OM (by rw[ml];decide)) .nil))) ?_ (by decide)]
  rotate_left
  ·have:=hok.1
   simp only[Cl,List.append_nil]at this
   obtain⟨a1,a2⟩:=(Di _ _ _).1 this
   refine(Di _ _ _).2 ⟨?_, ?_⟩
   ·have e:Cl (kX u.w++[Tk.x (Dp ⟨#[58]⟩)])++32::(Lib.decDigits m++(Eh u.bps++37::Cl (GJ u)))=tX u.w++58::32::(Lib.decDigits m++(Eh u.bps++37::Cl (GJ u))):=by simp[Dr,GM,Cl,C5,ml]
    exact⟨Gv (by decide+kernel),Gc _ (Gj _),by decide,jh hn,Gc _ (Gj _),by decide,Gv (by decide+kernel),Gc _ (Gj _),by decide,trivial⟩
   ·refine(Di _ _ _).2 ⟨okX (Lj _ w1) _ ?_,Fx (by decide+kernel),Fz (by rw[ml];decide) _,trivial⟩
    simp only[Cl,C5,ml]
    exact EL (by decide) _
  rw[OO]
  have hE:pW false (Lib.decDigits m++(Eh u.bps++37::Cl (GJ u)))=Lib.decDigits m++(List.replicate (Eh u.bps).length 32++Cl (G1 u)):=by
   obtain⟨w',hpe⟩:=WK (G1 u) [] false (X4 u) (by
    obtain⟨o1,o2⟩:=kc w4 w5 w6
    exact⟨Fx (by decide+kernel),Fz (by rw[ml];decide) _,o1⟩) (by simp)
   rw[List.append_nil,Gt,List.append_nil]at hpe
   have hd:=Eg m
   cases hq:Lib.decDigits m with
   |nil=>exact absurd hq (J0 m)
   |cons c l=>
    rw[hq]at hd hfr
    rw[DX,Bool.and_eq_true]at hd
    obtain⟨_,n2,_,n4,_,_,hwc⟩:=Fo _ (Dl c) hd.1
    have hl:(c::l).length+(Eh u.bps).length=((c::l)++Eh u.bps).length:=by rw[List.length_append]
    rw[List.cons_append,EC,if_neg (show c≠35 from Je n4 (by decide)),if_neg (show c≠34 from Je n2 (by decide)),if_pos ⟨hd.1,rfl⟩]
    rw[List.cons_append]at hfr
    simp only[hfr]
    rw[←List.cons_append,List.take_left,hl,(List.append_assoc (c::l) (Eh u.bps) (37::Cl (GJ u))).symm,List.drop_left,←hend,hpe]
  rw[hE]
  simp only[Dr,GM,HH,Cl,C5,FT,ml,hbps]
  simp
theorem Sd: ∀(T:List Tk) (i:Nat),(KS i T).map Prod.fst=(Cg T).map D6
 | [],_=>rfl
 | .x r::L,i=>by simp only[KS,Cg,List.map_cons,Sd L]
 | .b c::L,i=>by simp only[KS,Cg,Sd L]
theorem TY.key{L:List LR}{i p:Nat}{T:List Tk}(h:TY L i (KS p T)):N9 L i (Cg T):=fun j x hx=>by
 have h1:((KS p T).map Prod.fst)[j]? =some (D6 x):=by rw[Sd,List.getElem?_map,hx];rfl
 rw[List.getElem?_map]at h1
 cases hk:(KS p T)[j]? with
 |none=>rw[hk]at h1;cases h1
 |some y=>
  rw[hk]at h1
  simp only[Option.map_some,Option.some.injEq]at h1
  rw[(h j y hk).1,h1]
theorem TY.ap{L:List LR}{i p:Nat}{A B:List Tk}(h:TY L i (KS p (A++B))):TY L i (KS p A)∧TY L (i+ln A) (KS (p+(Cl A).length) B):=by
 rw[R2]at h
 have:=h.app
 rwa [M8]at this
theorem ae(T:List Tk): ∀(k i:Nat),KS i (List.replicate k (.b 32)++T)=KS (i+k) T
 |0,i=>rfl
 |k+1,i=>by rw[List.replicate_succ,List.cons_append,KS,ae T k];congr 1;omega
theorem XQ{L:List LR}{w:LR}{k:Int}{t:ByteArray}(hw:Bs w k t=true)(n:Int){i:Nat}{Y:List LR}(h:N9 L i (Cg (Ee w n)++Y))(hY:Bs (Bp L (i+ln (Ee w n))) k t=false):opN L k t i=.ok (n,i+ln (Ee w n))∧N9 L (i+ln (Ee w n)) Y:=by
 refine⟨?_,h.app.2⟩
 unfold opN
 by_cases hn:n=0
 ·have e:ln (Ee w n)=0:=by simp[Ee,hn,ln,Cg]
  rw[e,Nat.add_zero]at hY⊢
  rw[if_neg (by rw[hY];simp),hn]
  rfl
 ·have e:Cg (Ee w n)=[w,PH n]:=by simp[Ee,hn,Cg]
  have e2:ln (Ee w n)=2:=by rw[ln,e];rfl
  rw[e]at h
  obtain⟨a1,a2⟩:=h.hd
  obtain⟨b1,b2⟩:=a2.hd
  rw[e2,DJ a1,if_pos hw,(Cm b1).1,(Cm b1).2.2]
  rfl
theorem Wo{L:List LR}{i:Nat}{w:LR}{n:Int}{Y:List LR}{k:Int}{t:ByteArray}(h:N9 L i (Cg (Ee w n)++Y))(hw:Bs w k t=false)(hY:N9 L i Y→Bs (Bp L i) k t=false):Bs (Bp L i) k t=false:=by
 by_cases hn:n=0
 ·have e:Cg (Ee w n)=[]:=by simp[Ee,hn,Cg]
  rw[e]at h
  exact hY h
 ·have e:Cg (Ee w n)=[w,PH n]:=by simp[Ee,hn,Cg]
  rw[e]at h
  rw[DJ h.hd.1,hw]
theorem Pj(u:Fu):Cg (GJ u)=Cg (Ee (Dp ⟨#[43]⟩) u.fx)++(Cg (Ee (EN Gl) u.mn)++(Cg (Ee (EN Gp) u.mx)++[Dp ⟨#[59]⟩])):=by simp only[GJ,ER,Cg]
theorem fuT_of{s:ByteArray}{L:List LR}{u:Fu}{j:Nat}{b:Int}(hc:Ed (Bp L j)=true)(hk:(Bp L (j+1)).k=2)(hp:Bs (Bp L (j+2)) 4 ⟨#[37]⟩=true)(hx:YS (s.extract (ET L (j+1)) (ET L (j+2)+1)).toList=some b)(ho:N9 L (j+3) (Cg (GJ u))):fuT s L j=.ok ((b,u.fx,u.mn,u.mx),j+3+ln (GJ u)):=by
 rw[Pj]at ho
 have eln:ln (GJ u)=ln (Ee (Dp ⟨#[43]⟩) u.fx)+(ln (Ee (EN Gl) u.mn)+(ln (Ee (EN Gp) u.mx)+1)):=by simp only[ln,Pj,List.length_append,List.length_cons,List.length_nil]
 have hsm: ∀{i:Nat} {k:Int} {t:ByteArray},Bs (Dp ⟨#[59]⟩) k t=false→N9 L i [Dp ⟨#[59]⟩]→Bs (Bp L i) k t=false:=fun h a=>by rw[DJ a.hd.1,h]
 have m1:Bs (EN Gl) 4 ⟨#[43]⟩=false:=by simp[Bs,EN]
 have m2:Bs (EN Gp) 4 ⟨#[43]⟩=false:=by simp[Bs,EN]
 have m3:Bs (Dp ⟨#[59]⟩) 4 ⟨#[43]⟩=false:=by simp[Bs,Dp,ml]
 have m4:Bs (EN Gp) 1 Gl=false:=by simp[Bs,EN,ml,Gl,Gp]
 have m5:Bs (Dp ⟨#[59]⟩) 1 Gl=false:=by simp[Bs,Dp]
 have m6:Bs (Dp ⟨#[59]⟩) 1 Gp=false:=by simp[Bs,Dp]
 obtain⟨o1,p1⟩:=XQ (Sq ⟨#[43]⟩) u.fx ho (Wo ho.app.2 m1 fun h=>Wo h m2 (hsm m3))
 obtain⟨o2,p2⟩:=XQ (Se Gl) u.mn p1 (Wo p1.app.2 m4 (hsm m5))
 obtain⟨o3,p3⟩:=XQ (Se Gp) u.mx p2 (hsm m6 p2.app.2)
 have hsc:Bs (Bp L (j+3+ln (Ee (Dp ⟨#[43]⟩) u.fx)+ln (Ee (EN Gl) u.mn)+ln (Ee (EN Gp) u.mx))) 4 ⟨#[59]⟩=true:=by rw[DJ p3.hd.1];exact Sq _
 unfold fuT
 rw[if_neg (by rw[hc];simp),if_neg (by rw[hk];simp),if_neg (by rw[hp];simp),hx]
 simp only[o1,o2,o3]
 rw[if_neg (by rw[hsc];simp),eln]
 simp only[Except.ok.injEq,Prod.mk.injEq,true_and]
 omega
theorem Uk{s:ByteArray}{a w r:List UInt8}(h:s.toList=a++(w++r)){i j:Nat}(hi:i=a.length)(hj:j=a.length+w.length):s.extract i j=bs w:=by
 subst hi;subst hj
 apply Ey
 rw[U7 (w:=w) (r:=r) (by rw[h,List.drop_left]),BS]
theorem nv{u:Fu}(hn:Gn u.nm=true)(hw:Jb u=true)(hl:(FV u).length≤4000):PfO (bs (FV u)) 0 0 [u]:=by
 obtain⟨w1,w2,w3,w4,w5,w6⟩:=JM hw
 have hwx:=Lj _ w1
 have hpl:CO (bs (FV u))=bs (Cl (Sf u (Eh u.bps).length)):=by unfold CO;rw[BS,Xm hn hw]
 have hlen:(Cl (Sf u (Eh u.bps).length)).length=(FV u).length:=by rw[←Xm hn hw,M6]
 obtain⟨K,k1,k2⟩:=cB (Sf u (Eh u.bps).length) (XL hn hw _) (by omega)
 rw[←hpl]at k1
 have h0:(AV (CO (bs (FV u)))).1=0:=by rw[k1]
 obtain⟨L,hL⟩: ∃L,(AV (CO (bs (FV u)))).2.2=L:=⟨_,rfl⟩
 have hLK:L=K++[Es (CO (bs (FV u)))]:=by rw[←hL,k1,hpl]
 have hA:=TY.of hLK k2
 have hkl:K.length=ln (Sf u (Eh u.bps).length):=by rw[←M8 _ 0,←k2,List.length_map]
 have hend:(Bp L (ln (Sf u (Eh u.bps).length))).k=0:=by
  rw[F6 (x:=Es (CO (bs (FV u)))) (by rw[hLK,←hkl,List.getElem?_append_right (Nat.le_refl _)];simp)]
  rfl
 have hlL:L.length=ln (Sf u (Eh u.bps).length)+1:=by rw[hLK,List.length_append,hkl];rfl
 -- where they lie
 have eln:ln (Sf u (Eh u.bps).length)=3+(ln (kX u.w)+(2+(1+ln (GJ u)))):=by
  have e: ∀k:Nat,Cg (List.replicate k (.b 32))=[]:=fun k=>by
   induction k with
   |zero=>rfl
   |succ k ih=>simp only[List.replicate_succ,Cg,ih]
  simp only[ln,Sf,ER,List.length_append,Jz,HH,G1,Cg,e,List.length_cons,List.length_nil]
  omega
 unfold Sf at hA
 obtain⟨A1,A2⟩:=hA.ap
 obtain⟨A3,A4⟩:=A2.ap
 obtain⟨A5,A6⟩:=A4.ap
 rw[ae,GM]at A6
 rw[GM]at A5
 have l1:ln (Jz u)=3:=rfl
 have l2:ln (HH u)=2:=rfl
 rw[l1,Nat.zero_add]at A2 A3 A4 A5 A6
 rw[l2]at A6
 rw[Nat.zero_add]at A3 A5 A6
 obtain⟨p1,hp1⟩: ∃p1,(Cl (Jz u)).length=p1:=⟨_,rfl⟩
 rw[hp1]at A3 A5 A6
 obtain⟨j,hj⟩: ∃j,3+ln (kX u.w)=j:=⟨_,rfl⟩
 rw[hj]at A5 A6
 simp only[G1,KS]at A6
 obtain⟨⟨q1,q2⟩,q3⟩:=A6.hd
 simp only[HH,KS]at A5
 obtain⟨⟨r1,r2⟩,A5'⟩:=A5.hd
 obtain⟨⟨r3,r4⟩,_⟩:=A5'.hd
 have K1:=A1.key
 simp only[Jz,Cg]at K1
 obtain⟨c1,K1⟩:=K1.hd
 obtain⟨c2,K1⟩:=K1.hd
 obtain⟨c3,_⟩:=K1.hd
 obtain⟨y,l,hy⟩:=(nocX hwx).2
 have A3':=A3
 rw[hy]at A3'
 simp only[KS]at A3'
 have hat3:ET L 3=p1:=A3'.hd.1.2
 -- the texts
 have hlt:(bs (FV u)).toList=Cl (Jz u)++(tX u.w++(Cl (HH u)++(Eh u.bps++Cl (G1 u)))):=by rw[BS];rfl
 have hplt:(CO (bs (FV u))).toList=Cl (Jz u)++(tX u.w++(Cl (HH u)++(List.replicate (Eh u.bps).length 32++Cl (G1 u)))):=by rw[hpl,BS,OO]
 have hcol:Ed (Bp L j)=true:=by unfold Ed;rw[DJ r1];exact Sq _
 have hexJ:exJ L 3=j:=by
  unfold exJ
  refine NB _ _ _ (by omega) (by omega) (fun m h1 h2=> ?_) (.inr hcol)
  have hm:m - 3<(Cg (kX u.w)).length:=by have:ln (kX u.w)=(Cg (kX u.w)).length:=rfl;omega
  have hk:=A3.key (m - 3) _ (List.getElem?_eq_getElem hm)
  rw[show 3+(m - 3)=m by omega]at hk
  have:=(nocX hwx).1 _ (List.getElem_mem hm)
  rw[(Cm hk).1,SR hk]
  exact⟨this.1,this.2.1⟩
 have hexS:bh (CO (bs (FV u))) L 0=bs (tX u.w):=by
  unfold bh
  rw[Nat.zero_add,hexJ,hat3,r2]
  exact Uk hplt hp1.symm (by rw[hp1])
 have hpxo:PxO (bh (CO (bs (FV u))) L 0) 0 0 u.w:=by
  rw[hexS]
  refine jg w1 ?_
  have:=congrArg List.length (show FV u=_ from rfl)
  rw[FV]at hl
  simp only[List.length_append]at hl
  omega
 have fcol:(Bq (Dp ⟨#[58]⟩)).length=1:=by simp[C5,ml]
 have hnum:(Cl (HH u)).length=2+(Lib.itoa (u.bps / 100)).length:=by simp only[HH,Cl,C5,FT,ml,List.length_append,List.length_cons,List.length_nil,Array.toList];omega
 have hpc:YS ((bs (FV u)).extract (ET L (j+1)) (ET L (j+2)+1)).toList=some u.bps:=by
  rw[q2,r4,fcol]
  have e:(bs (FV u)).toList=(Cl (Jz u)++(tX u.w++[58,32]))++(Jh u.bps++Cl (GJ u)):=by
   rw[hlt]
   simp only[HH,G1,Cl,C5,FT,ml,Jh,Eh]
   simp
  have hpl2:(Jh u.bps).length=(Lib.itoa (u.bps / 100)).length+((Eh u.bps).length+1):=by simp only[Jh,Eh,List.length_append,List.length_cons,List.length_nil]
  rw[Uk e (by simp only[List.length_append,List.length_cons,List.length_nil];omega) (by simp only[List.length_append,List.length_cons,List.length_nil];omega),BS]
  exact pp_pc w2 w3
 have hfuT:=fuT_of (s:=bs (FV u)) (b:=u.bps) hcol (by rw[(Cm r3).1];rfl) (by rw[DJ q1];exact Sq _) hpc (by have:=TY.key q3;exact this)
 have hfuH:PX L [] 0=none:=by
  have i0:Bs (Bp L 0) 1 G9=true:=by rw[DJ c1];exact Se _
  have i2:Bs (Bp L (0+2)) 1 ⟨#[119,104,101,110]⟩=true:=by rw[DJ c3];exact Se _
  have i1:PG (Bp L (0+1))=true:=by
   rw[lf c2]
   unfold Gn at hn
   simp only[Bool.and_eq_true]at hn
   simp[PG,EN,hn.1]
  unfold PX
  rw[if_neg (by simp),if_neg (by rw[i0];simp),if_neg (by rw[i1];simp),if_neg (by simp[D4]),if_neg (by rw[i2];simp)]
 have hO:FuO (bs (FV u)) (CO (bs (FV u))) L [] 0 u (j+3+ln (GJ u)):=by
  have:=FuO.ok hfuH hpxo (by rw[Nat.zero_add,hexJ];exact hfuT)
  rw[(Cm c2).2.1]at this
  exact this
 refine .ok h0 (hL▸FlO.step ?_ hO (.fin ?_))
 ·rw[(Cm c1).1];decide
 ·rw[show j+3+ln (GJ u)=ln (Sf u (Eh u.bps).length) by omega]
  exact hend
end Go.Proofs.YtfphceknmgadgaaGreatDoor
namespace Go.Proofs.YtfphceknmgadgaaGreatDoor
open Go.Vm
set_option maxHeartbeats 2000000
set_option maxRecDepth 20000
theorem UF(nm:ByteArray)(a:List Fu)(u:Fu):D4 nm (a++[u])=(D4 nm a||decide (u.nm.toList=nm.toList)):=by simp[D4]
def allW(us:List Fu):Prop:= ∀u∈us,Gn u.nm=true∧Jb u=true
theorem kW: ∀(vs us ws:List Fu),allW vs→GL us vs=.ok ws→HJ us vs=true
 | [],us,ws,_,_=>rfl
 |v::vs,us,ws,ha,h=>by
  simp only[GL]at h
  split at h
  ·cases h
  split at h
  ·cases h
  rename_i h1
  have h1':D4 v.nm us=false:=by simpa using h1
  obtain⟨a1,a2⟩:=ha v (by simp)
  simp only[HJ,Gu,a1,a2,h1',Bool.true_and,Bool.not_false]
  exact kW vs _ ws (fun u hu=>ha u (by simp[hu])) h
theorem Sc: ∀(vs us:List Fu),us.length+vs.length≤64→HJ us vs=true→allW vs∧GL us vs=.ok (us++vs)
 | [],us,_,_=>⟨fun u hu=>by simp at hu,by simp[GL]⟩
 | v::vs,us,hl,h=>by
  simp only[HJ,Gu,Bool.and_eq_true,Bool.not_eq_true']at h
  obtain⟨⟨h1,h2,h3⟩,h4⟩:=h
  simp only[List.length_cons]at hl
  obtain⟨i1,i2⟩:=Sc vs (us++[v]) (by simp;omega) h4
  refine⟨fun u hu=> ?_, ?_⟩
  ·rcases List.mem_cons.1 hu with rfl|hu
   ·exact⟨h1,h3⟩
   ·exact i1 u hu
  ·simp only[GL]
   rw[if_neg (by omega),if_neg (by rw[h2];simp),i2]
   simp
theorem jo(vs:List Fu): ∀(us ws:List Fu),(∀nm,D4 nm us=true→D4 nm ws=true)→HJ ws vs=true→HJ us vs=true:=by
 induction vs with
 |nil=>intro _ _ _ _;rfl
 | cons v vs ih=>
  intro us ws hs h
  simp only[HJ,Gu,Bool.and_eq_true,Bool.not_eq_true']at h⊢
  obtain⟨⟨h1,h2,h3⟩,h4⟩:=h
  refine⟨⟨h1, ?_,h3⟩,ih (us++[v]) (ws++[v]) (fun nm hn=> ?_) h4⟩
  ·cases hc:D4 v.nm us with
   |false=>rfl
   |true=>rw[hs _ hc]at h2;cases h2
  ·rw[UF,Bool.or_eq_true]at hn⊢
   exact hn.imp (hs nm) id
theorem pf_nil:PfO (bs []) 0 0 []:=fC (b:=[]) rfl rfl (by decide)
theorem Zl: ∀(us:List Fu),us.length≤64→HJ [] us=true→(E6 us).length≤4000→PfO (bs (E6 us)) 0 0 us
 | [],_,_,_=>pf_nil
 | u::us,h64,h,hl=>by
  simp only[List.length_cons]at h64
  obtain⟨a1,a2⟩:=Sc (u::us) [] (by simp;omega) h
  have hlt:E6 (u::us)=FV u++10::E6 us:=by simp[E6,List.flatMap_cons,dt]
  rw[hlt,List.length_append,List.length_cons]at hl
  have hr:GL [u] us=.ok (u::us):=by
   simp only[GL,List.length_nil,D4,List.any_nil]at a2
   simpa using a2
  have h2:=Zl us (by omega) (jo us [] [u] (fun nm hn=>by simp[D4]at hn) (by
   simp only[HJ,Bool.and_eq_true]at h
   exact h.2)) (by omega)
  have h1:=nv (a1 u (by simp)).1 (a1 u (by simp)).2 (by omega)
  exact(pf_nl (r:=bs (E6 (u::us))) (by rw[BS,BS,BS,hlt]) (by rw[Ao,hlt,List.length_append,List.length_cons];omega) h1 h2).1 _ hr
theorem M7{us:List Fu}(h:R8 us=true)(hl:(EK us).length≤4000):PfO (bs (EK us)) 0 0 us:=by
 have hw:=h
 unfold R8 at h
 simp only[Bool.and_eq_true,decide_eq_true_eq]at h
 unfold EK at hl⊢
 rw[if_pos hw]at hl⊢
 exact Zl us h.1 h.2 hl
theorem nU(s:List UInt8):0≤(Nd s).1∧(Nd s).1≤10000:=by
 unfold Nd
 repeat' split
 all_goals first
  |exact⟨by decide,by decide⟩
  |exact⟨by simp only;omega,by simp only;omega⟩
theorem nw{s:List UInt8}{b:Int}(h:YS s=some b):0≤b∧b≤10000:=by
 unfold YS at h
 split at h
 ·simp only[Option.some.injEq]at h;rw[←h];exact nU s
 ·cases h
theorem dV{L:List LR}(hL:vV L){k:Int}{w:ByteArray}{i j:Nat}{v:Int}(h:opN L k w i=.ok (v,j)):Hj v=true:=by
 unfold opN at h
 split at h
 ·split at h
  ·rename_i h2
   cases h
   have:=XC (hL (i+1)) h2
   simp[Hj,this.1,this.2]
  ·cases h
 ·cases h;rfl
theorem fuT_w{s:ByteArray}{L:List LR}(hL:vV L){j k:Nat}{b fx mn mx:Int}(h:fuT s L j=.ok ((b,fx,mn,mx),k)):0≤b∧b≤10000∧Hj fx=true∧Hj mn=true∧Hj mx=true:=by
 unfold fuT at h
 split at h
 ·cases h
 split at h
 ·cases h
 split at h
 ·cases h
 split at h
 ·cases h
 rename_i hb
 split at h
 ·cases h
 rename_i h1
 split at h
 ·cases h
 rename_i h2
 split at h
 ·cases h
 rename_i h3
 split at h
 ·cases h
 ·cases h
  have:=nw hb
  exact⟨this.1,this.2,dV hL h1,dV hL h2,dV hL h3⟩
theorem fuO_w{s pl:ByteArray}{L:List LR}(hL:vV L){us:List Fu}{i k:Nat}{u:Fu}(h:FuO s pl L us i u k):Gn u.nm=true∧Jb u=true∧(tX u.w).length≤600000:=by
 cases h with
 | ok h1 h2 h3=>
  obtain⟨w1,w2⟩:=pxo_w h2
  obtain⟨b1,b2,b3,b4,b5⟩:=fuT_w hL h3
  refine⟨?_,by simp[Jb,w1,b1,b2,b3,b4,b5],w2⟩
  unfold PX at h1
  split at h1
  ·cases h1
  split at h1
  ·cases h1
  split at h1
  ·cases h1
  rename_i q
  have q':PG (Bp L (i+1))=true:=by simpa using q
  unfold PG at q'
  simp only[Bool.and_eq_true,decide_eq_true_eq]at q'
  have hwf:KM (Bp L (i+1)):=by
   rcases hL (i+1)with h|h
   ·exact h
   ·rw[h]at q';exact absurd q'.1 (by decide)
  simp only[Gn,q'.2,Vo hwf q'.1,Bool.and_self]
theorem flO_w{s pl:ByteArray}{L:List LR}(hL:vV L){us vs:List Fu}{i j:Nat}(h:FlO s pl L us i vs j):(∀u∈us,Gn u.nm=true∧Jb u=true∧(tX u.w).length≤600000)→ ∀u∈vs,Gn u.nm=true∧Jb u=true∧(tX u.w).length≤600000:=by
 induction h with
 |fin _=>exact id
 |step h1 h2 h3 ih=>
  intro ha
  refine ih fun u hu=> ?_
  rcases List.mem_append.1 hu with h|h
  ·exact ha u h
  ·rw[List.mem_singleton.1 h];exact fuO_w hL h2
theorem pf_wr{s:ByteArray}{a:Nat}{us:List Fu}(h:PfO s 0 a us):R8 us=true∧us.length≤64∧ ∀u∈us,Gn u.nm=true∧Jb u=true∧(tX u.w).length≤600000:=by
 obtain⟨r1,r2⟩:=nS h
 obtain⟨h0,_,j,h1⟩:=h.ok_inv
 have hA:=flO_w (UY h0) h1 (fun u hu=>by simp at hu)
 refine⟨?_,r2,hA⟩
 unfold R8
 rw[kW us [] us (fun u hu=>⟨(hA u hu).1,(hA u hu).2.1⟩) r1]
 simp[r2]
end Go.Proofs.YtfphceknmgadgaaGreatDoor
namespace Go.Proofs.YtfphceknmgadgaaGreatDoor
open Go.Vm
set_option maxHeartbeats 4000000
set_option maxRecDepth 20000
theorem F2(k:ByteArray)(v:Value)(m:KB)(s:ByteArray):HZ ((k,v)::m) s=if s=k then some v else HZ m s:=by
 unfold HZ
 simp only[JW]
 by_cases h:s=k
 ·rw[if_pos h,if_pos h];rfl
 ·rw[if_neg h,if_neg h];cases JW m s<;>rfl
theorem fH(s:ByteArray)(v:Value):Pa [] s v=[(s,v)]:=rfl
theorem cn(k:ByteArray)(u:Value)(m:KB)(s:ByteArray)(v:Value):Pa ((k,u)::m) s v=if s=k then(s,v)::m else(k,u)::Pa m s v:=by
 unfold Pa
 simp only[JW]
 by_cases h:s=k
 ·rw[if_pos h,if_pos h];rfl
 ·rw[if_neg h,if_neg h];cases JW m s<;>rfl
theorem bc(m:KB)(s t:ByteArray)(v:Value):HZ (Pa m s v) t=if t=s then some v else HZ m t:=by
 induction m with
 |nil=>rw[fH,F2]
 | cons p m ih=>
  obtain⟨k,u⟩:=p
  rw[cn]
  by_cases h:s=k
  ·subst h;rw[if_pos rfl,F2,F2];split<;>rfl
  ·rw[if_neg h,F2,F2,ih]
   by_cases h1:t=k
   ·rw[if_pos h1,if_pos h1,if_neg (fun e=>h (by rw[←e,h1]))]
   ·rw[if_neg h1,if_neg h1]
theorem gX:Tryz.prog.underlying 68=some (.map 9 4):=by kernel_rfl
theorem gv:Tryz.prog.underlying 9=some .string:=by kernel_rfl
theorem ba_iff{a b:ByteArray}:a.toList=b.toList↔a=b:=by
 rw[ByteArray.toList_eq,ByteArray.toList_eq]
 exact⟨fun h=>F9 h,fun h=>by rw[h]⟩
theorem gn(n:Int):Jh n≠[]:=by unfold Jh;simp
theorem Sb{n:Int}(h0:0≤n)(h1:n≤10000):(Jh n).length≤70:=by
 have l1:=D1 (n:=n / 100) (by omega) (by omega)
 have l2:=D1 (n:=n % 100 / 10) (by omega) (by omega)
 have l3:=D1 (n:=n % 10) (by omega) (by omega)
 unfold Jh
 split
 ·simp only[List.length_append,List.length_cons,List.length_nil];omega
 ·split
  ·simp only[List.length_append,List.length_cons,List.length_nil];omega
  ·simp only[List.length_append,List.length_cons,List.length_nil];omega
theorem KL{t:Xs}(h:wX t=true):(tX t=[])=False:=eq_false (tX_ne h)
def ct(u:Fu):List (ByteArray×Int):=[(⟨#[43]⟩,u.fx),(⟨#[109,105,110]⟩,u.mn),(⟨#[109,97,120]⟩,u.mx)]
def ocC(r:ByteArray×Int):List Value:=[.string r.1,.int .i64 r.2]
def W3:List (ByteArray×Int)→Option (List UInt8)
 | []=>some []
 |(w,n)::l=>if Hj n=true then(W3 l).map fun r=>Dz w.toList n++r else none
def PY(l:List (ByteArray×Int))(t:List UInt8):List UInt8:=match W3 l with
 |none=>[]
 |some r=>t++r++[59,10]
theorem Ho{w:ByteArray}{n:Int}{l:List (ByteArray×Int)}{t:List UInt8}(h:Hj n=false):PY ((w,n)::l) t=[]:=by
 unfold PY W3
 rw[if_neg (by rw[h];simp)]
theorem JP{w:ByteArray}{n:Int}{l:List (ByteArray×Int)}{t:List UInt8}(h:Hj n=true):PY ((w,n)::l) t=PY l (t++Dz w.toList n):=by
 unfold PY
 rw[W3,if_pos h]
 cases W3 l with
 |none=>rfl
 |some r=>simp
theorem oZ{u:Fu}(hx:wX u.w=true)(h0:0≤u.bps)(h1:u.bps≤10000):(if Jb u=true then GH u else [])=PY (ct u) (FG u):=by
 unfold ct
 cases a:Hj u.fx with
 |false=>rw[Ho a,if_neg (by simp[Jb,a])]
 | true=>
  rw[JP a]
  cases b:Hj u.mn with
  |false=>rw[Ho b,if_neg (by simp[Jb,b])]
  | true=>
   rw[JP b]
   cases c:Hj u.mx with
   |false=>rw[Ho c,if_neg (by simp[Jb,c])]
   |true=>
    rw[JP c,if_pos (by simp[Jb,a,b,c,hx,h0,h1])]
    simp[PY,W3,GH,ml]
theorem sc_o3(a b c d e f:Value):C4 Tryz.prog 95 3 [(0,.agg #[a,b]),(1,.agg #[c,d]),(2,.agg #[e,f])]=some (94,#[a,b,c,d,e,f]):=by kernel_rfl
theorem nD(A:AH)(hT:FY A)(u:Fu)(r:Xr)(r2:ExR A u.w r)(hz:SzX u.w)(hl:(JY u.w).length≤100000000)(hn:u.nm.size≤100000000):Ak Tryz.prog 33 #[.agg #[.string u.nm,.int .i64 r.op,.string r.nm,.string r.tx,.int .i64 r.n,.slice r.p r.len r.cap,.int .i64 u.bps,.int .i64 u.fx,.int .i64 u.mn,.int .i64 u.mx]] A (fun u_ A_=>u_=.string (bs (if Jb u=true then GH u else []))∧SubA A A_):=by
 refine AQ ⟨Tryz.prog,33,Tryz.f33,70,[0,1,2,3,4,5,6,8,40,41,42],⟨[],none⟩,[(1,.q false),(12,.q false)],_⟩ rfl (args:=[_]) Tryz.func33 rfl (by kernel_rfl) Tryz.ntmps33 (by simp) (by kernel_rfl) ?_
 intro ν fr;have nuE:=fr.nu
 have f0:=fr.2 0
 have f1:=fr.2 1
 have n01:(ν 1=ν 0)=False:=by simp[nuE]
 have ev:=fun o=>exV_w A hT u.w r r2 hz (by omega) ((ν 0,o)::A) (SubA.fresh f0 (SubA.refl _))
 have pv:=fun o=>lj A hT u.bps ((ν 0,o)::A) (SubA.fresh f0 (SubA.refl _))
 cases hw:wX u.w with
 |false=>
  have he:JY u.w=[]:=by unfold JY;rw[hw];rfl
  rw[he]at ev
  simp (maxDischargeDepth:=16) only[Af,↓Ae,simprocAttr,forall_const,nuE,fr.2,Hc,↓AK,↓AJ,AU,AR,Ab,Ac,Aq,ev,pv,BS]
  have:Jb u=false:=by simp[Jb,hw]
  rw[this];rfl
 |true=>
 have he:JY u.w=tX u.w:=by unfold JY;rw[hw];rfl
 rw[he]at ev hl
 by_cases hb:0≤u.bps∧u.bps≤10000
 rotate_left
 ·have hp:We u.bps=[]:=if_pos (by omega)
  rw[hp]at pv
  simp (maxDischargeDepth:=16) only[Af,↓Ae,simprocAttr,forall_const,nuE,fr.2,Hc,↓AK,↓AJ,AU,AR,Ab,Ac,Aq,ev,pv,BS,KL hw]
  have:Jb u=false:=by
   simp only[Jb,Bool.and_eq_false_iff,decide_eq_false_iff_not];omega
  rw[this];rfl
 have hp:We u.bps=Jh u.bps:=if_neg (by omega)
 have hpn:(Jh u.bps=[])=False:=eq_false (gn _)
 have hpl:=Sb hb.1 hb.2
 have nmL:=Ah u.nm
 rw[hp]at pv
 rw[oZ hw hb.1 hb.2]
 simp (maxDischargeDepth:=16) only[Af,↓Ae,simprocAttr,forall_const,nuE,fr.2,Hc,↓AK,↓AJ,AU,AR,Ab,Ac,Aq,ev,pv,BS,KL hw,hpn,sc_o3]
 have hnl:u.nm.data.toList.length=u.nm.size:=rfl
 refine⟨?_, ?_, ?_, ?_, ?_, ?_⟩
 ·simp only[ByteArray.size_append,Ao,lz,List.size_toArray,List.length_cons,List.length_nil];omega
 ·simp only[ByteArray.size_append,Ao,lz,List.size_toArray,List.length_cons,List.length_nil];omega
 ·simp only[ByteArray.size_append,Ao,lz,List.size_toArray,List.length_cons,List.length_nil];omega
 ·simp only[ByteArray.size_append,Ao,lz,List.size_toArray,List.length_cons,List.length_nil];omega
 ·simp only[ByteArray.size_append,Ao,lz,List.size_toArray,List.length_cons,List.length_nil];omega
 have hT5:((⟨#[102,101,101,32]⟩:ByteArray)++u.nm++⟨#[32,119,104,101,110,32]⟩++bs (tX u.w)++⟨#[58,32]⟩++bs (Jh u.bps))=bs (FG u):=F9 (by simp[bs,FG,ByteArray.toList_eq])
 rw[hT5]
 have hhl:(FG u).length≤300200100:=by
  unfold FG
  simp only[List.length_append,List.length_cons,List.length_nil];omega
 have dst_:((ν 0=ν 1)=False)∧((ν 1=ν 0)=False):=(by simp[nuE]);generalize ν 0=b0 at dst_  f0 f1 n01 ⊢;generalize ν 1=ob at dst_  f0 f1 n01⊢
 clear nuE fr ev pv
 have d0:=dst_
 have n10:(b0=ob)=False:=eq_false fun h=>by rw[h]at n01;simp at n01
 have hS:E8 ocC 2 [(ob,.cells #[.string ⟨#[43]⟩,.int .i64 u.fx,.string ⟨#[109,105,110]⟩,.int .i64 u.mn,.string ⟨#[109,97,120]⟩,.int .i64 u.mx] 94)] (some ⟨ob,0,none⟩) (ct u):=by
  refine .inr ⟨ob,0,_,_,_,rfl,(by simp only[Vm.AA,if_true];rfl),fun i a h=> ?_⟩
  rcases i with _|_|_|i
  ·simp only[ct,List.getElem?_cons_zero,Option.some.injEq]at h;subst h;rfl
  ·simp only[ct,List.getElem?_cons_succ,List.getElem?_cons_zero,Option.some.injEq]at h;subst h;rfl
  ·simp only[ct,List.getElem?_cons_succ,List.getElem?_cons_zero,Option.some.injEq]at h;subst h;rfl
  ·simp[ct]at h
 have hL3:(ct u).length=3:=rfl
 obtain⟨oo,hoo⟩: ∃oo,Obj.cells #[.string ⟨#[43]⟩,.int .i64 u.fx,.string ⟨#[109,105,110]⟩,.int .i64 u.mn,.string ⟨#[109,97,120]⟩,.int .i64 u.mx] 94=oo:=⟨_,rfl⟩
 rw[hoo]at hS⊢
 have sA: ∀o,SubA A ((ob,oo)::(b0,o)::A):=fun o=>SubA.trans (SubA.fresh f0 (SubA.refl _)) (SubA.fresh (AY n10 f1) (SubA.refl _))
 clear hoo
 have hwl: ∀x∈ct u,x.1.size≤3:=by
  intro x hx
  simp only[ct,List.mem_cons,List.not_mem_nil,or_false]at hx
  rcases hx with rfl|rfl|rfl<;>exact Nat.le_of_ble_eq_true rfl
 obtain⟨e,l,t,he,hd,hle,htl,hx,ht⟩: ∃(e:Nat) (l:List (ByteArray×Int)) (t:List UInt8),e=0∧l=(ct u).drop e∧e≤3∧t.length≤300200100+100*e∧PY (ct u) (FG u)=PY l t∧t=FG u:=⟨0,_,_,rfl,rfl,by omega,by omega,rfl,rfl⟩
 rw[hx]
 rw[show(42,some (Value.int .i64 0))=(42,some (Value.int .i64 (e:Int))) by rw[he];rfl,←ht]
 clear he ht hT5 hhl
 induction l generalizing e t with
 |nil=>
  obtain⟨hn1,hn2⟩:=drop_nil hd hle
  have lt:((e:Int)<3)=False:=eq_false (by omega)
  refine At.intro (by kernel_rfl) ?_
  intro ν fr;have nuE:=And.intro (fr.mem (b:=b0) (by simp)) (And.intro (fr.mem (b:=ob) (by simp)) (fr.nu))
  simp (maxDischargeDepth:=16) only[Af,↓Ae,simprocAttr,forall_const,nuE,fr.2,Hc,↓AK,↓AJ,AU,AR,Ab,Ac,Aq,lt]
  refine⟨by simp only[ByteArray.size_append,Ao,lz,List.size_toArray,List.length_cons,List.length_nil];omega, ?_,sA _⟩
  have:bs t++(⟨#[59,10]⟩:ByteArray)=bs (t++[59,10]):=F9 (by simp[bs])
  rw[this]
  simp[PY,W3]
 | cons x l ih=>
  obtain⟨w,n⟩:=x
  obtain⟨ha,hlt,hd',htk⟩:=DH hd
  have lt:((e:Int)<3)=True:=eq_true (by omega)
  have li:((e:Int)<0)=False:=eq_false (by omega)
  have we:IntKind.i64.wrap ((e:Int)+1)=((e+1:Nat):Int):=by rw[Az (by omega) (by omega)];omega
  obtain⟨bk,off,cs,ty,fr0,hp0,hbk,hcr,hcc⟩:=hS.at ha
  simp only[Option.some.injEq,Addr.mk.injEq,and_true]at hp0
  obtain⟨rfl,rfl⟩:=hp0
  simp only[Vm.AA,if_true,Option.some.injEq]at hbk
  subst hbk
  simp only[ocC,EP,Nat.zero_add]at hcr
  have hwz:=hwl _ (List.mem_of_getElem? ha)
  refine At.intro (by kernel_rfl) ?_
  intro ν fr;have nuE:=And.intro (fr.mem (b:=b0) (by simp)) (And.intro (fr.mem (b:=ob) (by simp)) (fr.nu))
  have f6:=fr.2 0
  by_cases h0:n<0
  ·rw[Ho (by simp[Hj];omega)]
   simp (maxDischargeDepth:=16) only[Af,↓Ae,simprocAttr,forall_const,nuE,fr.2,Hc,↓AK,↓AJ,AU,AR,Ab,Ac,Aq,lt,li,hcr,eq_true h0]
   exact⟨rfl,SubA.trans (sA _) (SubA.fresh f6 (SubA.refl _))⟩
  by_cases h1:9007199254740992<n
  ·rw[Ho (by simp[Hj];omega)]
   simp (maxDischargeDepth:=16) only[Af,↓Ae,simprocAttr,forall_const,nuE,fr.2,Hc,↓AK,↓AJ,AU,AR,Ab,Ac,Aq,lt,li,hcr,eq_false h0,eq_true h1]
   exact⟨rfl,SubA.trans (sA _) (SubA.fresh f6 (SubA.refl _))⟩
  have hok:Hj n=true:=by simp[Hj];omega
  rw[JP hok]
  by_cases hz0:n=0
  ·have hf:Dz w.toList n=[]:=by unfold Dz;rw[if_pos hz0]
   rw[hf,List.append_nil]
   have hz0':(n !=0)=false:=by simp[hz0]
   simp (maxDischargeDepth:=16) only[Af,↓Ae,simprocAttr,forall_const,nuE,fr.2,Hc,↓AK,↓AJ,AU,AR,Ab,Ac,Aq,lt,li,hcr,eq_false h0,eq_false h1,hz0',we]
   exact At.weak (ih (e+1) t hd' (by omega) (by omega) (by rw[hx,JP hok,hf,List.append_nil])) (by simp only[Bo,Ag,Nat.reduceEqDiff,↓reduceIte,reduceCtorEq,Nat.reduceAdd,and_self,and_true]) (SubA.fresh f6 (SubA.refl _))
  have hf:Dz w.toList n=32::(w.toList++32::Lib.itoa n):=by unfold Dz;rw[if_neg hz0]
  have hz0':(n !=0)=true:=by simp[hz0]
  have il:=D1 (n:=n) (by omega) (by omega)
  have hws:=Ah w
  simp only at hwz
  have fv:=fun o=>Zw A hT n (by omega) (by omega) ((ν 0,o)::_) (SubA.trans (sA _) (SubA.fresh f6 (SubA.refl _)))
  have s1:(ByteArray.size ⟨#[32]⟩+w.size≤9223372036854775807):=by simp only[ByteArray.size_append,Ao,lz,List.size_toArray,List.length_cons,List.length_nil];omega
  have s2:((⟨#[32]⟩++w:ByteArray).size+ByteArray.size ⟨#[32]⟩≤9223372036854775807):=by simp only[ByteArray.size_append,Ao,lz,List.size_toArray,List.length_cons,List.length_nil];omega
  have s3:((⟨#[32]⟩++w++⟨#[32]⟩:ByteArray).size+(bs (Lib.itoa n)).size≤9223372036854775807):=by simp only[ByteArray.size_append,Ao,lz,List.size_toArray,List.length_cons,List.length_nil];omega
  have s4:(⟨#[32]⟩++w++⟨#[32]⟩++bs (Lib.itoa n):ByteArray)=bs (32::(w.toList++32::Lib.itoa n)):=F9 (by simp[bs,ByteArray.toList_eq])
  have hfl:(32::(w.toList++32::Lib.itoa n)).length≤60:=by simp only[List.length_append,List.length_cons];omega
  have s5:(bs t).size+(bs (32::(w.toList++32::Lib.itoa n))).size≤9223372036854775807:=by rw[Ao,Ao];omega
  simp (maxDischargeDepth:=16) only[Af,↓Ae,simprocAttr,forall_const,nuE,fr.2,Hc,↓AK,↓AJ,AU,AR,Ab,Ac,Aq,lt,li,hcr,eq_false h0,eq_false h1,hz0',we,fv,s1,s2,s3,s4,s5,C6]
  have h9:=ih (e+1) (t++Dz w.toList n) hd' (by omega) (by rw[hf,List.length_append];omega) (by rw[hx,JP hok])
  rw[hf]at h9⊢
  exact At.weak h9 (by simp only[Bo,Ag,Nat.reduceEqDiff,↓reduceIte,reduceCtorEq,Nat.reduceAdd,and_self,and_true]) (SubA.fresh f6 (SubA.refl _))
theorem nA(A:AH)(hT:FY A)(u:Fu)(r:Xr)(r2:ExR A u.w r)(hz:SzX u.w)(hl:(JY u.w).length≤100000000)(hn:u.nm.size≤100000000)(B_:AH)(hB_:SubA A B_):Bi Tryz.prog 33 #[.agg #[.string u.nm,.int .i64 r.op,.string r.nm,.string r.tx,.int .i64 r.n,.slice r.p r.len r.cap,.int .i64 u.bps,.int .i64 u.fx,.int .i64 u.mn,.int .i64 u.mx]] B_=some (.string (bs (if Jb u=true then GH u else []))):=BP (Ce (by kernel_rfl) (nD A hT u r r2 hz hl hn) hB_)
end Go.Proofs.YtfphceknmgadgaaGreatDoor
namespace Go.Proofs.YtfphceknmgadgaaGreatDoor
open Go.Vm
set_option maxHeartbeats 4000000
set_option maxRecDepth 20000
theorem SP{w:List UInt8}{n:Int}(h:Hj n=true):(Dz w n).length≤w.length+30:=by
 simp only[Hj,Bool.and_eq_true,decide_eq_true_eq]at h
 have:=D1 (n:=n) (by omega) (by omega)
 unfold Dz
 split
 ·simp
 ·simp only[List.length_append,List.length_cons];omega
theorem Uv{u:Fu}(h:Jb u=true):(GH u).length≤(tX u.w).length+u.nm.size+300:=by
 obtain⟨w1,w2,w3,w4,w5,w6⟩:=JM h
 have p:=Sb w2 w3
 have a:=SP (w:=[43]) w4
 have b:=SP (w:=[109,105,110]) w5
 have c:=SP (w:=[109,97,120]) w6
 have s:=Ah u.nm
 unfold GH FG
 simp only[List.length_append,List.length_cons,List.length_nil]at a b c⊢
 omega
theorem YA(u:Fu):GH u≠[]:=by unfold GH;simp
theorem fmP_h(A:AH)(hT:FY A)(us:List Fu)(p:Option Addr)(cap:Nat)(hR:Kb A us p)(hz: ∀u∈us,SzX u.w)(hl: ∀u∈us,(tX u.w).length≤1000000∧u.nm.size≤1000):Ak Tryz.prog 11 #[.slice p us.length cap] A (fun u_ A_=>u_=.string (bs (EK us))∧SubA A A_):=by
 refine AQ ⟨Tryz.prog,11,Tryz.f11,39,[0,2,3,4,6,7,12,13,14],⟨[34,35],none⟩,[],_⟩ rfl (args:=[_]) Tryz.func11 rfl (by kernel_rfl) Tryz.ntmps11 (by simp) (by kernel_rfl) ?_
 intro ν fr;have nuE:=fr.nu
 obtain⟨rs,hrl,hS,hall⟩:=hR
 by_cases h64:us.length≤64
 rotate_left
 ·have g64:(64<(us.length:Int))=True:=eq_true (by omega)
  have hf:EK us=[]:=by unfold EK R8;rw[if_neg (by simp[h64])]
  rw[hf]
  simp (maxDischargeDepth:=16) only[Af,↓Ae,simprocAttr,forall_const,nuE,fr.2,Hc,↓AK,↓AJ,AU,AR,Ab,Ac,Aq,g64]
  rfl
 have g64:(64<(us.length:Int))=False:=eq_false (by omega)
 have f0:=fr.2 0
 have f1:=fr.2 1
 have n01:(ν 1=ν 0)=False:=by simp[nuE]
 simp (maxDischargeDepth:=16) only[Af,↓Ae,simprocAttr,forall_const,nuE,fr.2,Hc,↓AK,↓AJ,AU,AR,Ab,Ac,Aq,g64]
 have dst_:((ν 0=ν 1)=False)∧((ν 1=ν 0)=False):=(by simp[nuE]);generalize ν 0=b at dst_  f0 f1 n01 ⊢;generalize ν 1=mb at dst_  f0 f1 n01⊢
 clear nuE fr g64
 have d0:=dst_
 obtain⟨e,l,es,cl,m,E,he,hd,hle,hE,dE,fm,hm,hlk,hx,hbd,hes,hcl,hEE⟩: ∃(e:Nat) (l:List Fu) (es:Array MapEntry) (cl:Nat) (m:KB) (E:AH),e=0∧l=us.drop e∧e≤us.length∧FX E b (E6 (us.take e))∧Dis E A∧Vm.AA (E++A) mb=none∧HY es m∧(∀k,HZ m k=if D4 k (us.take e)=true then some (.bool true)else none)∧EK us=(if HJ (us.take e) l=true then E6 us else [])∧(E6 (us.take e)).length≤1002000*e∧es= #[]∧cl=0∧E=[(b,.cells #[.pointer none,.slice none 0 0] 67)]:=
  ⟨0,_,_,_,[],_,rfl,rfl,by omega,FX.new b,Dis.one f0,AY d0.1 f1,HY.nil,fun k=>rfl,by unfold EK R8;simp[h64],by simp[E6],rfl,rfl,rfl⟩
 rw[show(14,some (Value.int .i64 0))=(14,some (Value.int .i64 (e:Int))) by rw[he];rfl]
 refine At.at (A:=(mb,.map es cl)::(E++A)) (by rw[hes,hcl,hEE];exact SubA.refl _) ?_
 clear he hes hcl hEE f0 f1 n01
 induction l generalizing e es cl m E with
 |nil=>
  obtain⟨hn1,hn2⟩:=drop_nil hd hle
  have lt:((e:Int)<(us.length:Int))=False:=eq_false (by omega)
  rw[hn2]at hE
  rw[hn2]at hbd
  rw[hx]
  refine At.intro (by kernel_rfl) ?_
  intro ν fr;have nuE:=And.intro (fr.mem (b:=mb) (by simp)) (fr.nu)
  simp (maxDischargeDepth:=16) only[Af,↓Ae,simprocAttr,forall_const,nuE,fr.2,Hc,↓AK,↓AJ,AU,AR,Ab,Ac,Aq,lt]
  refine Ak.useX (Ua E b _ hE (by omega)) (SubA.trans (SubA.left E A) (SubA.fresh fm (SubA.refl _))) A (SubA.trans dE.right (SubA.fresh fm (SubA.refl _))) dE ?_
  rintro v D ⟨rfl,hdom⟩ dD
  refine⟨[],SubA.nil _, ?_⟩
  rw[List.nil_append]
  clear nuE fr
  intro ν fr;have nuE:=fr.nu
  simp (maxDischargeDepth:=16) only[Af,↓Ae,simprocAttr,forall_const,nuE,fr.2,Hc,↓AK,↓AJ,AU,AR,Ab,Ac,Aq]
  rfl
 | cons u l ih=>
  obtain⟨ha,hlt,hd',htk⟩:=DH hd
  have lt:((e:Int)<(us.length:Int))=True:=eq_true (by omega)
  have li:((e:Int)<0)=False:=eq_false (by omega)
  have we:IntKind.i64.wrap ((e:Int)+1)=((e+1:Nat):Int):=by rw[Az (by omega) (by omega)];omega
  obtain⟨r,hr⟩: ∃r,rs[e]? =some r:=⟨_,List.getElem?_eq_getElem (by omega)⟩
  obtain⟨bk,off,cs,ty,fr0,hp0,hbk,hcr,hcc⟩:=hS.at hr
  subst hp0
  obtain⟨hr1,hrw,hr3,hr4,hr5,hr6⟩:=hall e u r ha hr
  simp only[G2,hr1,hr3,hr4,hr5,hr6]at hcr
  have hbkE:=dE.right _ _ hbk
  obtain⟨q1,q2⟩:=BE fm hbkE
  have hpush:E6 (us.take (e+1))=E6 (us.take e)++GH u:=by rw[htk];simp[E6]
  have bad:Gu (us.take e) u=false→EK us=[]:=fun h=>by rw[hx];simp[HJ,h]
  have sA:SubA A ((mb,.map es cl)::(E++A)):=SubA.trans dE.right (SubA.fresh fm (SubA.refl _))
  obtain⟨hl1,hl2⟩:=hl u (List.mem_of_getElem? ha)
  refine At.intro (by kernel_rfl) ?_
  intro ν fr;have nuE:=And.intro (fr.mem (b:=mb) (by simp)) (fr.nu)
  have f6:=fr.2 0
  have lk:=fun o=>Wr (s:=u.nm) (A:=(ν 0,o)::(mb,.map es cl)::(E++A)) (ok:=false) (es:=es) (cl:=cl) (r:=mb) gX gv zro4 (by simp[Vm.AA,nuE]) hm
  rw[hlk u.nm]at lk
  cases hnm:Gn u.nm with
  |false=>
   have hnm':(!(mS u.nm)&&DS u.nm)=false:=hnm
   simp (maxDischargeDepth:=16) only[Af,↓Ae,simprocAttr,forall_const,nuE,fr.2,Hc,↓AK,↓AJ,AU,AR,Ab,Ac,Aq,lt,li,hbkE,q1,q2,hcr,hnm']
   rw[bad (by simp[Gu,hnm])]
   exact⟨rfl,SubA.trans sA (SubA.fresh f6 (SubA.refl _))⟩
  |true=>
  have hnm':(!(mS u.nm)&&DS u.nm)=true:=hnm
  cases hh:D4 u.nm (us.take e)with
  |true=>
   simp only[hh,if_true,Option.getD_some,Bool.false_eq_true,if_false]at lk
   simp (maxDischargeDepth:=16) only[Af,↓Ae,simprocAttr,forall_const,nuE,fr.2,Hc,↓AK,↓AJ,AU,AR,Ab,Ac,Aq,lt,li,hbkE,q1,q2,hcr,hnm',lk]
   rw[bad (by simp[Gu,hh])]
   exact⟨rfl,SubA.trans sA (SubA.fresh f6 (SubA.refl _))⟩
  |false=>
  simp only[hh,if_false,Option.getD_none,Bool.false_eq_true]at lk
  simp (maxDischargeDepth:=16) only[Af,↓Ae,simprocAttr,forall_const,nuE,fr.2,Hc,↓AK,↓AJ,AU,AR,Ab,Ac,Aq,lt,li,hbkE,q1,q2,hcr,hnm',lk]
  have dst_:((ν 0=mb)=False)∧((mb=ν 0)=False):=(by simp[nuE]);generalize ν 0=n6 at dst_  f6⊢
  clear nuE fr lk
  have d6:=dst_
  refine ca (es:=es) (cl:=cl) (r:=mb) gX gv (by simp[Vm.AA,d6]) hm ?_
  intro es' cl' hm'
  simp only[Fc,d6,if_false,if_true]
  intro ν fr;have nuE:=And.intro (fr.mem (b:=n6) (by simp)) (And.intro (fr.mem (b:=mb) (by simp)) (fr.nu))
  have g6:Vm.AA (E++A) n6=none:=by simpa[Vm.AA,d6]using f6
  have f6':Vm.AA ((mb,.map es' cl')::(E++A)) n6=none:=AY (by simp[d6]) g6
  have sA':SubA A ((mb,.map es' cl')::(E++A)):=SubA.trans dE.right (SubA.fresh fm (SubA.refl _))
  have hex:(JY u.w).length≤100000000:=by
   unfold JY;split
   ·omega
   ·simp
  have rv:=fun o=>nA A hT u r.w hrw (hz u (List.mem_of_getElem? ha)) hex (by omega) ((n6,o)::(mb,.map es' cl')::(E++A)) (SubA.trans sA' (SubA.fresh f6' (SubA.refl _)))
  cases hw:Jb u with
  |false=>
   rw[hw]at rv
   simp only[Bool.false_eq_true,if_false]at rv
   simp (maxDischargeDepth:=16) only[Af,↓Ae,simprocAttr,forall_const,nuE,fr.2,Hc,↓AK,↓AJ,AU,AR,Ab,Ac,Aq,rv,BS,d6]
   rw[bad (by simp[Gu,hw])]
   exact⟨rfl,SubA.trans sA' (SubA.fresh f6' (SubA.refl _))⟩
  |true=>
  rw[hw]at rv
  simp only[if_true]at rv
  have hfl:=Uv hw
  have hfn:(GH u=[])=False:=eq_false (YA u)
  have hlk': ∀k,HZ (Pa m u.nm (.bool true)) k=if D4 k (us.take (e+1))=true then some (.bool true)else none:=by
   intro k
   rw[bc,hlk k,htk,UF]
   by_cases hk:k=u.nm
   ·subst hk;simp
   ·have: ¬u.nm.toList=k.toList:=fun h=>hk (ba_iff.1 h).symm
    simp[hk,this]
  have hok:Gu (us.take e) u=true:=by simp[Gu,hnm,hh,hw]
  have hx':EK us=(if HJ (us.take (e+1)) l=true then E6 us else []):=by
   rw[hx,htk]
   simp only[HJ,hok,Bool.true_and]
  simp (maxDischargeDepth:=16) only[Af,↓Ae,simprocAttr,forall_const,nuE,fr.2,Hc,↓AK,↓AJ,AU,AR,Ab,Ac,Aq,rv,BS,hfn,d6]
  clear nuE fr rv
  refine W7 (Y:=[(n6,_),(mb,_)]) (FB E b _ _ hE (YA u) (by omega)) dE (dis2 g6 fm) ?_
  intro E4 hE4 dE4 dYE4
  simp only[List.cons_append,List.nil_append]
  intro ν fr;have nuE:=And.intro (fr.mem (b:=n6) (by simp)) (And.intro (fr.mem (b:=mb) (by simp)) (fr.nu))
  simp (maxDischargeDepth:=16) only[Af,↓Ae,simprocAttr,forall_const,nuE,fr.2,Hc,↓AK,↓AJ,AU,AR,Ab,Ac,Aq,we]
  have k6:=dYE4 n6 (by simp[Vm.AA])
  have km:=dYE4 mb (by simp[Vm.AA,d6])
  exact At.weak (ih (e+1) es' cl' _ E4 hd' (by omega) (by rw[hpush];exact hE4) dE4 km hm' hlk' hx' (by rw[hpush,List.length_append];omega)) (by simp only[Bo,Ag,Nat.reduceEqDiff,↓reduceIte,reduceCtorEq,Nat.reduceAdd,and_self,and_true]) (SubA.fresh (AY (by simp[d6]) k6) (SubA.refl _))
theorem MN(A:AH)(hT:FY A)(us:List Fu)(p:Option Addr)(cap:Nat)(hR:Kb A us p)(hz: ∀u∈us,SzX u.w)(hl: ∀u∈us,(tX u.w).length≤1000000∧u.nm.size≤1000)(B_:AH)(hB_:SubA A B_):Bi Tryz.prog 11 #[.slice p us.length cap] B_=some (.string (bs (EK us))):=BP (Ce (by kernel_rfl) (fmP_h A hT us p cap hR hz hl) hB_)
end Go.Proofs.YtfphceknmgadgaaGreatDoor
